/-
  What calls keep that write to a few blocks; all shifts, as the program goes through them.
-/
import Derived.Test.YtnikpadclmjglaaLs
import Derived.Test.YtnikpadclmjglaaCuD
import Derived.Deep.RegionLaw
namespace Go.Proofs.Ytnikpadclmjglaa
set_option maxRecDepth 100000
open Go.RowKit

/-- but for the blocks of S all is as it was -/
structure Kp (S : Nat → Prop) (w w' : World) : Prop where
  os : w'.os = w.os
  tape : w'.tape = w.tape
  output : w'.output = w.output
  size : w.heap.size ≤ w'.heap.size
  block : ∀ k, k < w.heap.size → ¬ S k → w'.heap[k]? = w.heap[k]?
section
variable {S : Nat → Prop} {a b c w w' : World}
theorem Kp.refl (S : Nat → Prop) (w : World) : Kp S w w := ⟨rfl, rfl, rfl, Nat.le_refl _, fun _ _ _ => rfl⟩
theorem Kp.trans (h : Kp S a b) (k : Kp S b c) : Kp S a c :=
  ⟨k.os.trans h.os, k.tape.trans h.tape, k.output.trans h.output, Nat.le_trans h.size k.size, fun i hi hs => (k.block i (Nat.lt_of_lt_of_le hi h.size) hs).trans (h.block i hi hs)⟩
theorem Kp.of_below (h : Below w.heap.size w w') : Kp S w w' := ⟨h.os, h.tape, h.output, h.size, fun k hk _ => h.block k hk⟩
theorem Kp.setCell (h : Kp S a b) {p : Addr} (hp : S p.block) (u : Value) : Kp S a (b.setCell p u) :=
  h.trans ⟨rfl, rfl, rfl, by simp [World.setCell], fun k _ hs => Below.heap_setCell _ _ _ _ (fun e => hs (e ▸ hp))⟩
theorem Kp.below (h : Kp S w w') {B : Nat} (hS : ∀ k, S k → B ≤ k) (hB : B ≤ w.heap.size) : Below B w w' :=
  ⟨h.os, h.tape, h.output, h.size, fun k hk => h.block k (by omega) (fun hs => by have := hS k hs; omega)⟩
theorem Kp.cell (h : Kp S w w') {p : Addr} {v : Value} (hc : w.cell? p = some v) (hs : ¬ S p.block) : w'.cell? p = some v :=
  (World.cell?_of_block (h.block _ (World.block_lt_of_cell? _ _ hc) hs)).trans hc
theorem Kp.frz (h : Kp S w w') {p : Addr} {v : Value} {q : Bool} (hc : w.cell? p = some v) (hf : w.frozen? p = q) (hs : ¬ S p.block) : w'.frozen? p = q :=
  (World.frozen?_of_block (h.block _ (World.block_lt_of_cell? _ _ hc) hs)).trans hf
theorem Sl.kp {α : Type} {k n : Nat} {enc : α → List Value} {A : Option Addr} {xs : List α} (h : Sl w k enc A n xs) (hk : Kp S w w') (hA : 0 < n → ∀ a, A = some a → ¬ S a.block) : Sl w' k enc A n xs :=
  ⟨h.1, fun hn => by
    obtain ⟨b, off, e, hb, hc⟩ := h.2 hn
    exact ⟨b, off, e, by have := hk.size; omega, fun i x hx j u hu => hk.cell (hc i x hx j u hu) (hA hn ⟨b, off, none⟩ e)⟩⟩
theorem Sl.lt {α : Type} {k n : Nat} {enc : α → List Value} {A : Option Addr} {xs : List α} (h : Sl w k enc A n xs) : 0 < n → ∀ a, A = some a → a.block < w.heap.size := by
  intro hn a ha
  obtain ⟨b, off, e, hb, _⟩ := h.2 hn
  rw [ha] at e; injection e with e; rw [e]; exact hb
theorem Own.kp {α : Type} {base : Nat} {e : TypeId} {k : Nat} {enc : α → List Value} {v : Value} {xs : List α} (h : Own w base e k enc v xs) (hk : Kp S w w') (hv : ∀ g, v.ownBlock = some g → ¬ S g) : Own w' base e k enc v xs := by
  obtain ⟨h1, h2⟩ := h
  refine ⟨h1, ?_⟩
  rcases h2 with h2 | ⟨g, cap, cur, hv2, hg, hh, r⟩
  · exact .inl h2
  · exact .inr ⟨g, cap, cur, hv2, hg, (hk.block g (Array.getElem?_eq_some_iff.1 hh).1 (hv g (by rw [hv2]; rfl))).trans hh, r⟩
end
theorem ShB.all {xs : List Cu} {ss : List Int} (h : ShB xs ss) : scAll xs ss = true := by
  rw [scAll, List.all_eq_true]
  intro p hp
  obtain ⟨i, hi⟩ := List.mem_iff_getElem?.1 hp
  rw [List.getElem?_zip_eq_some] at hi
  have := h.one i p.1 p.2 hi.1 hi.2
  rw [scP, inB_true]; exact this

theorem CloneI_any (A : Option Addr) (n c : Nat) (xs : List Int) (w : World) (h : Sl w 1 e1 A n xs) (hn : n ≤ 1048577) :
    Calls Try.prog 39 #[.slice A n c] w (RetOwn 2 1 e1 xs w) := by
  obtain ⟨i0, hi0, hz0, hz1, hz2⟩ := info_parts infoI64
  have q22 : ∀ (w : World) (a : Option Addr) (n c n' c' : Nat), (binOp .eql 30 (.slice a n c) (.slice none n' c')).run Try.prog w = .ok (.bool a.isNone) w := fun w a n c n' c' => Lib.run_eql_slice_nil w _ _ a n c n' c' Try.underlying30
  cases A with
  | none =>
    have hx : xs = [] := by
      rcases Nat.eq_zero_or_pos n with h0 | h0
      · exact List.eq_nil_of_length_eq_zero (by rw [h.1, h0])
      · obtain ⟨b, off, e, _⟩ := h.2 h0; cases e
    subst hx
    go_enter Try.func39, Try.ntmps39
    go_wp2
    go_ret
    exact RetOwn.mk Own.none_ (Below.refl _ _)
  | some a =>
    have hst : Own (w.alloc (.cells #[] 2)) w.heap.size 2 1 e1 (.slice (some ⟨w.heap.size, 0, none⟩) 0 0) ([] : List Int) := Own.lit w _ _ [] 0 (Nat.le_refl _) rfl (by simp [maxLen]) e1_len rfl
    go_enter Try.func39, Try.ntmps39
    go_wp2_with (at_builtin; refine wpList_appS rfl (.tmp 5) (.tmp 6) 30 2 rfl w.heap.size i0 _ 1 8 Try.underlying30 hi0 hz0 hz1 hz2 rfl (by decide) e1 e1_len e1_one _ ([] : List Int) rfl hst (some a) n c xs rfl (fun h => by cases h) (h.alloc _) (by simp; omega) (by simp [maxLen]; omega) (by simp) ?_; intro v9 w9 ho9 hb9 hg9 hn9)
    go_ret
    exact RetOwn.mk (by simpa using ho9) ((below_alloc _ _).trans hb9)

set_option maxHeartbeats 1600000 in
theorem allShifts_HS {σ : Type} (S : Nat → Prop) (B0 : Nat) (hSB : ∀ k, S k → k < B0) (L : Option Addr) (n c : Nat) (xs : List Cu) (ok : CuOk xs) (hxl : Hid (xs.length = n)) (hLS : 0 < n → ∀ a, L = some a → ¬ S a.block) (p4 p1 : Nat) (step : σ → List Int → σ) (Inv : σ → World → Prop)
    (hIB : ∀ st w w', Inv st w → Below w.heap.size w w' → Inv st w')
    (hy : ∀ (st : σ) (s : List Int) (A : Option Addr) (m d : Nat) (w : World), B0 ≤ w.heap.size → Inv st w → Sl w 4 e4 L n xs → Sl w 1 e1 A m s → m = n → ShB xs s → Calls Try.prog 32 #[.slice A m d, .pointer (some ⟨p4, 0, none⟩), .pointer (some ⟨p1, 0, none⟩)] w fun e w' => e = .returned (.tuple #[]) ∧ Inv (step st s) w' ∧ Kp S w w') :
    ∀ (r : Nat) (done : List Int) (A : Option Addr) (m d : Nat) (st : σ) (w : World), m + r = n → B0 ≤ w.heap.size → Inv st w → Sl w 4 e4 L n xs → Sl w 1 e1 A m done → (∀ a, A = some a → ¬ S a.block) → ShB xs done →
      Calls Try.prog 31 #[.slice L n c, .slice A m d, .func (.func 32) #[] #[.pointer (some ⟨p4, 0, none⟩), .pointer (some ⟨p1, 0, none⟩)]] w fun e w' => e = .returned (.tuple #[]) ∧ Inv (foldS step done (allS (xs.drop m)) st) w' ∧ Kp S w w' := by
  obtain ⟨i0, hi0, hz0, hz1, hz2⟩ := info_parts infoI64
  have hn6 : n ≤ 6 := by rw [← hxl.out]; exact ok.len
  have HY := Lib.hid hy
  have HIB := Lib.hid hIB
  have HLS := Lib.hid hLS
  have HSB := Lib.hid hSB
  clear hy hIB hLS hSB
  intro r
  induction r with
  | zero =>
    intro done A m d st w hmr hB hI hL hs hAS hsb
    obtain rfl : m = n := by omega
    have HE : Hid (foldS step done (allS (xs.drop m)) st = step st done) := by
      rw [Hid, List.drop_of_length_le (by rw [hxl.out]; exact Nat.le_refl _), foldS_leaf]
    have HI := Lib.hid hI
    have HAS := Lib.hid hAS
    clear hI hAS
    go_enter Try.func31, Try.ntmps31
    go_wp2_with fail
    refine (HY.out st done A m d _ hB HI.out hL hs rfl hsb).mono ?_
    rintro e w2 ⟨rfl, hI2, hk2⟩
    have HI2 := Lib.hid hI2
    clear hI2
    go_wp2_with fail
    refine bodyPost_ret (results_none rfl _ _ _) rfl ?_
    exact ⟨rfl, by rw [HE.out]; exact HI2.out, hk2⟩
  | succ r ih =>
    intro done A m d st w hmr hB hI hL hs hAS hsb
    have IH := Lib.hid ih
    have HI := Lib.hid hI
    have HAS := Lib.hid hAS
    have HM : Hid (done.length = m) := hs.1
    clear ih hI hAS
    have hlt : m < n := by omega
    obtain ⟨x, hx⟩ : ∃ x, xs[m]? = some x := ⟨_, List.getElem?_eq_getElem (by rw [hxl.out]; exact hlt)⟩
    have HX := Lib.hid hx
    have hxb := ok.one x (List.mem_of_getElem? hx)
    have HD : Hid (allS (xs.drop m) = allP (xs.drop (m + 1)) (x.2.2.2.toNat + 1)) := by
      obtain ⟨h1, h2⟩ := List.getElem?_eq_some_iff.1 hx
      rw [Hid, List.drop_eq_getElem_cons h1, h2, allS_cons]
    clear hx
    have hne : ((m : Int) == (n : Int)) = false := by rw [beq_eq_false_iff_ne]; omega
    have g1 : (0 : Int) ≤ (m : Int) := by omega
    have g2 : (m : Int) < (n : Int) := by omega
    go_enter Try.func31, Try.ntmps31
    go_wp2_with fail
    go_loopw [6] (fun i wr => ∃ b : Nat, b ≤ x.2.2.2.toNat + 1 ∧ i = .int .i64 b ∧ Hid (Inv (foldS step done (allP (xs.drop (m + 1)) b) st) wr) ∧ Kp S w wr) (fun i _ => x.2.2.2.toNat + 1 - (intOf i).toNat)
    case atStart => exact ⟨0, by omega, rfl, HI, Kp.refl _ _⟩
    case round =>
      obtain ⟨b, hb, rfl, HIb, hk⟩ := hrel
      have hLr := hL.kp hk HLS.out
      have hBr := Nat.le_trans hB hk.size
      obtain ⟨bl, off, x', rfl, hx', _, d0, d1, d2, d3⟩ := hLr.at4 hlt
      obtain rfl : x' = x := by have := HX.out; rw [hx'] at this; exact Option.some.inj this
      clear hx'
      by_cases hle : (b : Int) ≤ x'.2.2.2
      · go_wp2_with fail
        refine (CloneI_any A m d done _ (hs.kp hk fun _ => HAS.out) (by omega)).mono ?_
        rintro e w3 ⟨A3, n3, c3, rfl, ho, hb3⟩
        obtain rfl : n3 = m := by rw [← (ho.sl e1_len).1]; exact HM.out
        have hs3 := hb3.size
        go_wp2_with (at_builtin; refine wpList_app1x rfl (.tmp 27) (.tmp 29) 30 2 rfl wr.heap.size i0 _ 1 8 Try.underlying30 hi0 hz0 hz1 hz2 rfl (by decide) e1 e1_len e1_one (.slice A3 n3 c3) done rfl (ho.alloc _) (b : Int) _ _ rfl (newcell _ _ _ _ rfl) (by have := HM.out; omega) (by have := HM.out; unfold maxLen; omega) (Nat.le_trans hs3 (below_alloc _ _).size) ?_; intro v9 w9 ho9 hb9 hg9 hv9; obtain ⟨A9, c9, hv9e, _, _, _⟩ := ho9.val; rw [show (done ++ [(b : Int)]).length = n3 + 1 by rw [List.length_append, HM.out]; rfl] at hv9e; subst hv9e)
        have hbr9 := hb3.trans (((Below.refl _ _).alloc hs3 _).trans hb9)
        have HI9 := Lib.hid (HIB.out _ _ _ HIb.out hbr9)
        have hL9 := hLr.below hbr9
        have hB9 := Nat.le_trans hBr hbr9.size
        have hA9 : ∀ a, A9 = some a → ¬ S a.block := fun a ha hs0 => by have q1 := HSB.out _ hs0; have q2 := (ho9.lt a.block (by rw [ha]; rfl)).1; omega
        have HA9 := Lib.hid hA9
        clear hA9
        refine (IH.out (done ++ [(b : Int)]) A9 (n3 + 1) c9 _ w9 (by omega) hB9 HI9.out hL9 (ho9.sl e1_len) HA9.out (hsb.snoc (by rw [HM.out]; exact HX.out) (by omega) hle)).mono ?_
        rintro e w10 ⟨rfl, hI10, hk10⟩
        have HI10 := Lib.hid hI10
        clear hI10
        go_wp2_with fail
        go_roundw
        case rel => exact ⟨b + 1, by omega, by go_num, by rw [Hid, foldS_succ]; exact HI10.out, (hk.trans (Kp.of_below hbr9)).trans hk10⟩
        case measure => simp [intOf]; omega
      · have HBE : Hid (x'.2.2.2.toNat + 1 = b) := by rw [Hid]; omega
        go_wp2_with fail
        go_end0
        exact ⟨rfl, by rw [HD.out, HBE.out]; exact HIb.out, hk⟩

set_option maxHeartbeats 1600000 in
theorem allShifts_LS {σ : Type} (S : Nat → Prop) (B0 : Nat) (hSB : ∀ k, S k → k < B0) (L : Option Addr) (n c : Nat) (xs : List Cu) (ok : CuOk xs) (hxl : Hid (xs.length = n)) (hLS : 0 < n → ∀ a, L = some a → ¬ S a.block) (p8 p2 p3 p7 : Nat) (step : σ → List Int → σ) (Inv : σ → World → Prop)
    (hIB : ∀ st w w', Inv st w → Below w.heap.size w w' → Inv st w')
    (hy : ∀ (st : σ) (s : List Int) (A : Option Addr) (m d : Nat) (w : World), B0 ≤ w.heap.size → Inv st w → Sl w 4 e4 L n xs → Sl w 1 e1 A m s → m = n → ShB xs s → Calls Try.prog 37 #[.slice A m d, .pointer (some ⟨p8, 0, none⟩), .pointer (some ⟨p2, 0, none⟩), .pointer (some ⟨p3, 0, none⟩), .pointer (some ⟨p7, 0, none⟩)] w fun e w' => e = .returned (.tuple #[]) ∧ Inv (step st s) w' ∧ Kp S w w') :
    ∀ (r : Nat) (done : List Int) (A : Option Addr) (m d : Nat) (st : σ) (w : World), m + r = n → B0 ≤ w.heap.size → Inv st w → Sl w 4 e4 L n xs → Sl w 1 e1 A m done → (∀ a, A = some a → ¬ S a.block) → ShB xs done →
      Calls Try.prog 31 #[.slice L n c, .slice A m d, .func (.func 37) #[] #[.pointer (some ⟨p8, 0, none⟩), .pointer (some ⟨p2, 0, none⟩), .pointer (some ⟨p3, 0, none⟩), .pointer (some ⟨p7, 0, none⟩)]] w fun e w' => e = .returned (.tuple #[]) ∧ Inv (foldS step done (allS (xs.drop m)) st) w' ∧ Kp S w w' := by
  obtain ⟨i0, hi0, hz0, hz1, hz2⟩ := info_parts infoI64
  have hn6 : n ≤ 6 := by rw [← hxl.out]; exact ok.len
  have HY := Lib.hid hy
  have HIB := Lib.hid hIB
  have HLS := Lib.hid hLS
  have HSB := Lib.hid hSB
  clear hy hIB hLS hSB
  intro r
  induction r with
  | zero =>
    intro done A m d st w hmr hB hI hL hs hAS hsb
    obtain rfl : m = n := by omega
    have HE : Hid (foldS step done (allS (xs.drop m)) st = step st done) := by
      rw [Hid, List.drop_of_length_le (by rw [hxl.out]; exact Nat.le_refl _), foldS_leaf]
    have HI := Lib.hid hI
    have HAS := Lib.hid hAS
    clear hI hAS
    go_enter Try.func31, Try.ntmps31
    go_wp2_with fail
    refine (HY.out st done A m d _ hB HI.out hL hs rfl hsb).mono ?_
    rintro e w2 ⟨rfl, hI2, hk2⟩
    have HI2 := Lib.hid hI2
    clear hI2
    go_wp2_with fail
    refine bodyPost_ret (results_none rfl _ _ _) rfl ?_
    exact ⟨rfl, by rw [HE.out]; exact HI2.out, hk2⟩
  | succ r ih =>
    intro done A m d st w hmr hB hI hL hs hAS hsb
    have IH := Lib.hid ih
    have HI := Lib.hid hI
    have HAS := Lib.hid hAS
    have HM : Hid (done.length = m) := hs.1
    clear ih hI hAS
    have hlt : m < n := by omega
    obtain ⟨x, hx⟩ : ∃ x, xs[m]? = some x := ⟨_, List.getElem?_eq_getElem (by rw [hxl.out]; exact hlt)⟩
    have HX := Lib.hid hx
    have hxb := ok.one x (List.mem_of_getElem? hx)
    have HD : Hid (allS (xs.drop m) = allP (xs.drop (m + 1)) (x.2.2.2.toNat + 1)) := by
      obtain ⟨h1, h2⟩ := List.getElem?_eq_some_iff.1 hx
      rw [Hid, List.drop_eq_getElem_cons h1, h2, allS_cons]
    clear hx
    have hne : ((m : Int) == (n : Int)) = false := by rw [beq_eq_false_iff_ne]; omega
    have g1 : (0 : Int) ≤ (m : Int) := by omega
    have g2 : (m : Int) < (n : Int) := by omega
    go_enter Try.func31, Try.ntmps31
    go_wp2_with fail
    go_loopw [6] (fun i wr => ∃ b : Nat, b ≤ x.2.2.2.toNat + 1 ∧ i = .int .i64 b ∧ Hid (Inv (foldS step done (allP (xs.drop (m + 1)) b) st) wr) ∧ Kp S w wr) (fun i _ => x.2.2.2.toNat + 1 - (intOf i).toNat)
    case atStart => exact ⟨0, by omega, rfl, HI, Kp.refl _ _⟩
    case round =>
      obtain ⟨b, hb, rfl, HIb, hk⟩ := hrel
      have hLr := hL.kp hk HLS.out
      have hBr := Nat.le_trans hB hk.size
      obtain ⟨bl, off, x', rfl, hx', _, d0, d1, d2, d3⟩ := hLr.at4 hlt
      obtain rfl : x' = x := by have := HX.out; rw [hx'] at this; exact Option.some.inj this
      clear hx'
      by_cases hle : (b : Int) ≤ x'.2.2.2
      · go_wp2_with fail
        refine (CloneI_any A m d done _ (hs.kp hk fun _ => HAS.out) (by omega)).mono ?_
        rintro e w3 ⟨A3, n3, c3, rfl, ho, hb3⟩
        obtain rfl : n3 = m := by rw [← (ho.sl e1_len).1]; exact HM.out
        have hs3 := hb3.size
        go_wp2_with (at_builtin; refine wpList_app1x rfl (.tmp 27) (.tmp 29) 30 2 rfl wr.heap.size i0 _ 1 8 Try.underlying30 hi0 hz0 hz1 hz2 rfl (by decide) e1 e1_len e1_one (.slice A3 n3 c3) done rfl (ho.alloc _) (b : Int) _ _ rfl (newcell _ _ _ _ rfl) (by have := HM.out; omega) (by have := HM.out; unfold maxLen; omega) (Nat.le_trans hs3 (below_alloc _ _).size) ?_; intro v9 w9 ho9 hb9 hg9 hv9; obtain ⟨A9, c9, hv9e, _, _, _⟩ := ho9.val; rw [show (done ++ [(b : Int)]).length = n3 + 1 by rw [List.length_append, HM.out]; rfl] at hv9e; subst hv9e)
        have hbr9 := hb3.trans (((Below.refl _ _).alloc hs3 _).trans hb9)
        have HI9 := Lib.hid (HIB.out _ _ _ HIb.out hbr9)
        have hL9 := hLr.below hbr9
        have hB9 := Nat.le_trans hBr hbr9.size
        have hA9 : ∀ a, A9 = some a → ¬ S a.block := fun a ha hs0 => by have q1 := HSB.out _ hs0; have q2 := (ho9.lt a.block (by rw [ha]; rfl)).1; omega
        have HA9 := Lib.hid hA9
        clear hA9
        refine (IH.out (done ++ [(b : Int)]) A9 (n3 + 1) c9 _ w9 (by omega) hB9 HI9.out hL9 (ho9.sl e1_len) HA9.out (hsb.snoc (by rw [HM.out]; exact HX.out) (by omega) hle)).mono ?_
        rintro e w10 ⟨rfl, hI10, hk10⟩
        have HI10 := Lib.hid hI10
        clear hI10
        go_wp2_with fail
        go_roundw
        case rel => exact ⟨b + 1, by omega, by go_num, by rw [Hid, foldS_succ]; exact HI10.out, (hk.trans (Kp.of_below hbr9)).trans hk10⟩
        case measure => simp [intOf]; omega
      · have HBE : Hid (x'.2.2.2.toNat + 1 = b) := by rw [Hid]; omega
        go_wp2_with fail
        go_end0
        exact ⟨rfl, by rw [HD.out, HBE.out]; exact HIb.out, hk⟩

end Go.Proofs.Ytnikpadclmjglaa
