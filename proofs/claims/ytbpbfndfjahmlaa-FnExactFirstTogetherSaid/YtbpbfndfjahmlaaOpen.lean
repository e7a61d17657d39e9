/-
  A slice of wheels among a law's arguments.
-/
import Derived.Test.YtbpbfndfjahmlaaBWheel
namespace Go.Proofs.Ytbpbfndfjahmlaa
open Go.RowKit Go.ChangeShapes Go.WideShapes Go.Deep Go.Joins

theorem open_wheels {H : Type} {enc : TypeId × Value → H} {P : Program} {w : World} {r : Reach} {b0 : Nat} {t e : TypeId} {v : Value} {d : DataW H} {p : List MemPlace} {f0 f1 : Field}
    (ht : P.underlying t = some (.slice e)) (he : P.underlying e = some (.struct #[f0, f1])) (hone : oneCellFields P #[f0, f1] = true) (hC : P.cellsOf e = 2)
    (i0 : P.underlying f0.type = some (.int .i64)) (i1 : P.underlying f1.type = some .bool)
    (hv : Value.okWide P w r b0 t v) (h : DataW.Trod enc P w 0 (fun _ => true) true t v d p) :
    ∃ A n c xs, v = .slice A n c ∧ n ≤ maxLen ∧ Sl w 2 eWheel A n xs ∧ ∀ x ∈ xs, In64 x.1 := by
  obtain ⟨A, n, c, xs, rfl, hn, _, hs, hg⟩ := open_rowsG (k := 2) eWheel (fun x => In64 x.1) (fun j c => (j = 0 → ∃ a : Int, c = .int .i64 a ∧ In64 a) ∧ (j = 1 → ∃ b : Bool, c = .bool b))
    (fun g hg => by
      obtain ⟨a, ha, hi⟩ := (hg 0 (by omega)).1 rfl
      obtain ⟨b, hb⟩ := (hg 1 (by omega)).2 rfl
      exact ⟨(a, b), hi, by simp [eWheel, List.range_succ, ha, hb]⟩) ht he hone hC rfl (by omega)
    (fun j f c m y hj hy => by
      match j, hj with
      | 0, hj =>
        cases hj
        obtain ⟨z, ez, _, wz⟩ := DataW.trod_int i0 hy
        exact ⟨fun _ => ⟨z, by simpa using ez, i64_of wz⟩, fun h => by cases h⟩
      | 1, hj =>
        cases hj
        obtain ⟨z, ez, _⟩ := DataW.trod_bool i1 hy
        exact ⟨(fun h => by cases h), fun _ => ⟨z, by simpa using ez⟩⟩) hv h
  exact ⟨A, n, c, xs, rfl, hn, hs, hg⟩
end Go.Proofs.Ytbpbfndfjahmlaa
