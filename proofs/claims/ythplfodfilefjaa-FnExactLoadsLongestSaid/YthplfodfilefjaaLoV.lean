/-
  slices.Delete at a row of bytes of the call's own.
-/
import Derived.Test.YthplfodfilefjaaLoT
import Derived.Shelf.SlicesE.Delete
import Derived.Ground.SlgnProg
import Derived.Test.YthplfodfilefjaaLaDel
namespace Go.Proofs.Ythplfodfilefjaa
open Go.RowKit

def enU (x : UInt8) : Value := .int .u8 (x.toNat : Int)
theorem Delete_any (base g off cap fa : Nat) (ln : List UInt8) (w : World) (hr : RowAt w base g off cap ln) (hf : fa < ln.length) :
    Calls Try.prog 15 #[.slice (some ⟨g, off, none⟩) ln.length cap, .int .i64 (fa : Int), .int .i64 ((fa : Int) + 1)] w fun e w' => ∃ ys, Hid (ys = ln.eraseIdx fa) ∧ e = .returned (.slice (some ⟨g, off, none⟩) ys.length cap) ∧ RowAt w' base g off cap ys ∧ Below base w w' ∧ ∀ p : Addr, p.block ≠ g → w'.cell? p = w.cell? p := by
  rw [show (fa : Int) + 1 = ((fa + 1 : Nat) : Int) by omega]
  obtain ⟨i0, hi0, hz0, hz1, hz2⟩ := info_parts infoU8
  have hcap := hr.r3
  have hH : Sort.Holds enU w g off ln.toArray := fun j hj => by
    have hj' : j < ln.length := by simpa using hj
    refine ⟨?_, (hr.there j (by have := hr.r2; omega)).2⟩
    rw [hr.cells j ln[j] (List.getElem?_eq_getElem hj')]
    simp [enU, hj']
  have hcon := AnyE.slices_Delete Try.laidDelete enU (fun _ => rfl) (0 : UInt8) Try.zeroValue5 i0 hi0 hz1 g off cap fa (fa + 1) ln.toArray w hH (by simpa using hr.r2) (by unfold maxLen at hcap; omega) (by omega) (by simp; omega)
  refine Calls.mono hcon ?_
  rintro e w' ⟨rfl, q, rfl⟩
  have hD : ln.toArray.toList.take fa ++ ln.toArray.toList.drop (fa + 1) ++ List.replicate (fa + 1 - fa) (0 : UInt8) = ln.eraseIdx fa ++ [0] := by
    rw [List.eraseIdx_eq_take_drop_succ, show fa + 1 - fa = 1 by omega]; rfl
  have hel : (ln.eraseIdx fa).length = ln.length - 1 := by rw [List.length_eraseIdx, if_pos hf]
  rw [hD]
  have hds : (ln.eraseIdx fa ++ [0]).toArray.size = ln.toArray.size := by simp [hel]; omega
  have hHa : Sort.Holds enU (Sort.ahead w q) g off ln.toArray := hH
  have hsz : (Sort.putRow enU (Sort.ahead w q) g off (ln.eraseIdx fa ++ [0]).toArray).heap.size = w.heap.size := by simp [Sort.putRow, Sort.mapBlock, Sort.ahead]
  refine ⟨ln.eraseIdx fa, rfl, by rw [List.size_toArray, show fa + 1 - fa = 1 by omega, hel], ⟨hr.r0, by rw [hsz]; exact hr.r1, by have := hr.r2; omega, hcap, fun j hj => ⟨?_, by rw [Sort.frozen?_putRow]; exact (hr.there j hj).2⟩, fun i x hx => ?_⟩, ⟨rfl, rfl, rfl, by rw [hsz]; exact Nat.le_refl _, fun k hk => ?_⟩, fun p hp => Sort.cell?_putRow_other _ _ _ _ _ _ (.inl hp)⟩
  · by_cases hjn : j < ln.length
    · rw [Sort.cell?_putRow enU _ g off ln.toArray _ hHa hds j (by rw [hds]; simpa using hjn)]; rfl
    · rw [Sort.cell?_putRow_other _ _ _ _ _ _ (.inr (.inr (by rw [hds]; simp; omega)))]
      exact (hr.there j hj).1
  · have hi := (List.getElem?_eq_some_iff.1 hx).1
    rw [Sort.cell?_putRow enU _ g off ln.toArray _ hHa hds i (by rw [hds]; simp; omega)]
    have : (ln.eraseIdx fa ++ [0]).toArray[i]! = x := by
      rw [getElem!_pos _ i (by simp; omega)]
      have h2 : (ln.eraseIdx fa ++ [0])[i]? = some x := by rw [List.getElem?_append_left hi]; exact hx
      obtain ⟨_, h3⟩ := List.getElem?_eq_some_iff.1 h2
      simpa using h3
    rw [this]; rfl
  · have hne : g ≠ k := by have := hr.r0; omega
    simp [Sort.putRow, Sort.mapBlock, Sort.ahead, Array.getElem?_modify, hne]

/-- append of one byte, at a step of a region that draws its order -/
theorem step_appO {P : Program} {w : World} {ops : Array Oper} {o : Oper} {a : Act} {K : Act → World → Prop} {Q : Exit → Act → World → Prop} {E : Prop} (hgd : o.guard = none) (s x : Operand) (t T : TypeId)
    (ho : o.op = .call { callee := .builtin .append, args := #[s, x], argTypes := #[t, t] })
    (base : Nat) (i : TypeInfo) (z : Value) (ht : P.underlying t = some (.slice T)) (hi : P.info? T = some i) (hz : i.zero = some z)
    (hsize : i.size = 1) (hby : i.bytes = 1) (hzs : z.cells.size = 1)
    (g off cap : Nat) (xs : List UInt8) (hs : a.eval s = .slice (some ⟨g, off, none⟩) xs.length cap) (own : RowAt w base g off cap xs)
    (y : UInt8) (gb c : Nat) (hx : a.eval x = .slice (some ⟨gb, 0, none⟩) 1 c) (hcell : w.cell? ⟨gb, 0, none⟩ = some (.int .u8 (y.toNat : Int)))
    (hlen : xs.length ≤ 1000) (hbase : base ≤ w.heap.size)
    (h : ∀ v' w', RowO w' base v' (xs ++ [y]) → Below base w w' → K (a.put o.dst v') w') :
    if Region.wanted o (yielded ops a.tmps) = true then Oper.wp P o a w K Q else E := by
  have hw : Region.wanted o (yielded ops a.tmps) = true := by simp [Region.wanted, hgd]
  rw [if_pos hw]
  have hcap := own.r3
  have hold : ∀ j u, (xs.flatMap eB)[j]? = some u → w.cell? ((⟨g, off, none⟩ : Addr).add j) = some u := fun j u hu => by
    have hj : j < xs.length := by
      have := (List.getElem?_eq_some_iff.1 hu).1
      rwa [flat_len eB_len, Nat.mul_one] at this
    have hxj : xs[j]? = some (xs[j]'hj) := List.getElem?_eq_getElem hj
    have := flat_at eB_len xs j _ hxj 0 (by omega)
    rw [Nat.mul_one, Nat.add_zero, hu] at this
    have e : u = .int .u8 ((xs[j]'hj).toNat : Int) := by simpa [eB] using this
    subst e
    rw [Addr.add_lit]
    exact own.cells j _ hxj
  have hnew : ∀ j u, [Value.int .u8 (y.toNat : Int)][j]? = some u → w.cell? ((⟨gb, 0, none⟩ : Addr).add j) = some u := fun j u hu => by
    match j, hu with
    | 0, hu =>
      have : u = .int .u8 (y.toNat : Int) := by simpa using hu.symm
      subst this
      rw [show ((⟨gb, 0, none⟩ : Addr).add 0) = ⟨gb, 0, none⟩ from rfl]; exact hcell
    | j + 1, hu => simp at hu
  have hone : ∀ u ∈ [Value.int .u8 (y.toNat : Int)], u.oneCell' = true := fun u hu => by simp at hu; subst hu; rfl
  by_cases hr : xs.length + 1 ≤ cap
  · have hsp : ∀ j, j < [Value.int .u8 (y.toNat : Int)].length → (w.cell? ⟨g, off + xs.length * i.size + j, none⟩).isSome = true ∧ w.frozen? ⟨g, off + xs.length * i.size + j, none⟩ = false := fun j hj => by
      have : j = 0 := by simpa using hj
      subst this
      rw [hsize, Nat.mul_one, Nat.add_zero]
      exact own.there xs.length (by omega)
    have hrun := run_append_room_cells (P := P) w t o.type T i ht hi g off xs.length cap ⟨gb, 0, none⟩ 1 c [.int .u8 (y.toNat : Int)] (by rw [hsize]; rfl) hnew hone hr (fun j hj => (hsp j hj).1) (fun j hj => (hsp j hj).2)
    unfold Oper.wp execOp
    simp only [ho, resolve, invoke, builtin, Sem.run_bind, Sem.run_pure, Result.andThen_ok, List.map_toArray, List.map_cons, List.map_nil, hs, hx, hrun]
    have e : w.setCells g (off + xs.length * i.size) [.int .u8 (y.toNat : Int)] = w.setCell ⟨g, off + xs.length, none⟩ (.int .u8 (y.toNat : Int)) := by rw [hsize]; simp [World.setCells]
    rw [e]
    exact h _ _ ⟨g, off, cap, by simp, own.push hr y⟩ ((Below.refl _ _).setCell (by exact own.r0) _)
  · obtain ⟨v', w', hrun, h2, h3⟩ := run_append_arg_grows (P := P) w t o.type T i z 1 1 ht hi hz hsize hby hzs (by omega) ⟨g, off, none⟩ xs.length cap (xs.flatMap eB) (by rw [flat_len eB_len]) hold ⟨gb, 0, none⟩ 1 c [.int .u8 (y.toNat : Int)] rfl hnew (by omega) (by unfold maxLen; omega) (by omega)
    unfold Oper.wp execOp
    simp only [ho, resolve, invoke, builtin, Sem.run_bind, Sem.run_pure, Result.andThen_ok, List.map_toArray, List.map_cons, List.map_nil, hs, hx, hrun]
    have h4 : w'.ownsRow w.heap.size T 1 v' (xs.length + 1) ((xs ++ [y]).flatMap eB) := by simpa [eB] using h2
    obtain ⟨g', o', c', hv, hr'⟩ := RowO.of_own h4 (by simp) (by omega)
    exact h _ _ ⟨g', o', c', hv, { hr' with r0 := Nat.le_trans hbase hr'.r0 }⟩ ((Below.refl _ _).grown h3 hbase (fun q hq => by cases hq))
end Go.Proofs.Ythplfodfilefjaa
