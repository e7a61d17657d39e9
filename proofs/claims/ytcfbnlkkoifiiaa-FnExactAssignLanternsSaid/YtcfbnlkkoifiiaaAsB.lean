/-
  The program's stable sort of at most 12 slides: one insertion block.
-/
import Derived.Test.YtcfbnlkkoifiiaaAsA
namespace Go.Proofs.Ytcfbnlkkoifiiaa
open Go.RowKit

/-- an index of a slide as the row of ints holds it -/
def enF {n : Nat} (i : Fin n) : Value := .int .i64 (i.val : Int)
theorem sw_cell {α : Type} [Inhabited α] (enc : α → Value) (w : World) (blk off M : Nat) (dk : Array α) (os : Array Obj) (a : Addr) (h1 : a.block ≠ blk) (h2 : a.block < w.heap.size) : (sortWorld enc w blk off M dk os).cell? a = w.cell? a := by
  unfold sortWorld
  rw [Sort.cell?_grow _ _ _ (by simpa using h2), Sort.cell?_putRow_other _ _ _ _ _ _ (.inl h1)]
  rfl
theorem sw_size {α : Type} [Inhabited α] (enc : α → Value) (w : World) (blk off M : Nat) (dk : Array α) (os : Array Obj) : w.heap.size ≤ (sortWorld enc w blk off M dk os).heap.size := by
  unfold sortWorld Sort.grow
  simp
theorem Sl.sw {α β : Type} [Inhabited α] {k n : Nat} {en : β → List Value} {A : Option Addr} {xs : List β} {w : World} (h : Sl w k en A n xs) (enc : α → Value) (blk off M : Nat) (dk : Array α) (os : Array Obj) (hA : 0 < n → ∀ a, A = some a → a.block ≠ blk) : Sl (sortWorld enc w blk off M dk os) k en A n xs :=
  ⟨h.1, fun hn => by
    obtain ⟨b, o, e, hb, hc⟩ := h.2 hn
    have hne : b ≠ blk := hA hn ⟨b, o, none⟩ e
    exact ⟨b, o, e, Nat.lt_of_lt_of_le hb (sw_size _ _ _ _ _ _ _), fun i x hx j u hu => (sw_cell _ _ _ _ _ _ _ ⟨b, o + i * k + j, none⟩ hne hb).trans (hc i x hx j u hu)⟩⟩
theorem cmpReads_any (L : Option Addr) (m c p1 : Nat) (xs : List (Int × Int × Int)) (ok : ShOk xs) (blk off size : Nat) (w : World) (hp : p1 ≠ blk) (c1 : w.cell? ⟨p1, 0, none⟩ = some (.slice L (m + 1) c)) (hL : Sl w 3 e3 L (m + 1) xs) (hLb : ∀ a, L = some a → a.block ≠ blk) :
    CmpReads Try.prog 21 #[.pointer (some ⟨p1, 0, none⟩)] (enF (n := m + 1)) (fun x y => onI xs x.val - onI xs y.val) blk off size w := by
  intro M os dk _ x y
  exact AssignLanterns1_any L (m + 1) c p1 xs ok x.val y.val x.2 y.2 _ ((sw_cell _ _ _ _ _ _ _ _ hp (World.block_lt_of_cell? _ _ c1)).trans c1) (hL.sw _ _ _ _ _ _ fun _ => hLb)
set_option maxHeartbeats 1600000 in
theorem stable_any (L : Option Addr) (m c p1 : Nat) (xs : List (Int × Int × Int)) (ok : ShOk xs) (blk cap : Nat) (d : List (Fin (m + 1))) (w : World) (hp : p1 ≠ blk) (c1 : w.cell? ⟨p1, 0, none⟩ = some (.slice L (m + 1) c)) (hL : Sl w 3 e3 L (m + 1) xs) (hLb : ∀ a, L = some a → a.block ≠ blk) (hH : Sort.Holds enF w blk 0 d.toArray) (hd : d.length ≤ 12) :
    Calls Try.prog 35 #[.slice (some ⟨blk, 0, none⟩) d.length cap, .int .i64 d.length, .func (.func 21) #[] #[.pointer (some ⟨p1, 0, none⟩)]] w fun e w' => e = .returned (.tuple #[]) ∧ ∃ q, w' = (Sort.putRow enF w blk 0 (ordL (fun i : Fin (m + 1) => onI xs i.val) d).toArray).drewN q := by
  have eg : ∀ args w, (callFunc 21 args).run Try.prog w = .ok (.enter 21 args) w := enters_of Try.func21 (by kernel_rfl) rfl
  have hcon := Any.insertionSortCmpFunc_one Try.laidIns (enF (n := m + 1)) (fun _ => rfl) (fun x y => onI xs x.val - onI xs y.val) 21 #[.pointer (some ⟨p1, 0, none⟩)] blk 0 cap 0 d.length d.toArray w eg (cmpReads_any L m c p1 xs ok blk 0 _ w hp c1 hL hLb) hH (Nat.zero_le _) (by simp) (by simp; omega)
  rw [insertionSort_list (f := fun i : Fin (m + 1) => onI xs i.val) (fun x y => by simp only [ltOf]; congr 1; exact propext (by omega)) d] at hcon
  change Calls Try.prog 41 _ _ _ at hcon
  rw [List.size_toArray] at hcon
  have HC := Lib.hid hcon
  clear hcon hH hL c1
  have g1 : (d.length : Int) ≤ 12 := by omega
  go_enter Try.func35, Try.ntmps35
  go_wp2_with fail
  go_loopw [7, 8] (fun v7 v8 wr => v7 = .int .i64 0 ∧ v8 = .int .i64 20 ∧ wr = w) (fun _ _ _ => 0)
  case atStart => simp
  case round =>
    obtain ⟨rfl, rfl, rfl⟩ := hrel
    go_wp2_with fail
    refine HC.out.mono ?_
    rintro e w2 ⟨rfl, q, rfl⟩
    go_wp2_with fail
    go_loopw [6] (fun v6 wx => v6 = .int .i64 20 ∧ ∃ q', wx = (Sort.putRow enF wr blk 0 (ordL (fun i : Fin (m + 1) => onI xs i.val) d).toArray).drewN q') (fun _ _ => 0)
    case atStart => exact ⟨rfl, q, rfl⟩
    case round =>
      obtain ⟨rfl, q', rfl⟩ := hrel
      go_wp2_with fail
      go_end0
      exact ⟨rfl, q', rfl⟩

end Go.Proofs.Ytcfbnlkkoifiiaa
