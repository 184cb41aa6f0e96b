/- A slice of structs of two whole numbers, opened. -/
import Derived.Test.YtlbhmbbmpmhcjaaShapes
import Derived.Test.YtlbhmbbmpmhcjaaPackLaws4
import Derived.Deep.SlicePairs
set_option linter.unusedVariables false
set_option linter.unusedSimpArgs false
namespace Go.Proofs.Ytlbhmbbmpmhcjaa.shapes
open Go.ChangeShapes Go.WideShapes Go.ChangeAt Go.RowKit Go.Proofs.YtlbhmbbmpmhcjaaW.PrintWords Go.Proofs.Ytlbhmbbmpmhcjaa.base Go.Proofs.Ytlbhmbbmpmhcjaa.packl

section
variable {H : Type} {enc : TypeId × Value → H} {P : Program} {W : World} {base : Nat}
theorem openAsks {t e : TypeId} {f0 f1 : Field} {v : Value} {d : DataW H} {ps : List MemPlace} (ht : P.underlying t = some (.slice e)) (he : P.underlying e = some (.struct #[f0, f1])) (hi0 : P.underlying f0.type = some (.int .i64)) (hi1 : P.underlying f1.type = some (.int .i64))
    (ce : P.cellsOf e = 2) (o0 : f0.offset = 0) (o1 : f1.offset = 1) (c0 : P.cellsOf f0.type = 1) (c1 : P.cellsOf f1.type = 1)
    (hv : Value.okWide P W .any base t v) (h : DataW.Trod enc P W 0 (fun _ => true) true t v d ps) :
    ∃ (A : Option Addr) (n c : Nat) (ks ns : List Int), v = .slice A n c ∧ n ≤ c ∧ RdA W A n ks ns := by
  obtain ⟨A, n, c, rfl⟩ := okWide_slice ht hv
  obtain ⟨fuel, hf⟩ := h
  rcases Deep.open_slice_pairs ht he ce o0 o1 c0 c1 hf with ⟨hcs, hx⟩ | ⟨a, l, cap, m, fu, V0, V1, D0, D1, P0, P1, hcs, _, hl, hm, hmm, hx, hcell⟩
  · simp [Value.cells] at hcs
    obtain ⟨rfl, rfl, rfl⟩ := hcs
    exact ⟨none, 0, 0, [], [], rfl, Nat.le_refl _, by omega, fun h => absurd h (by omega)⟩
  · simp [Value.cells] at hcs
    obtain ⟨rfl, rfl, rfl⟩ := hcs
    unfold maxLen at hm
    simp at hmm
    subst hmm
    have one : ∀ j, j < n → ∃ p : Int × Int, W.cell? (a.add (j * 2)) = some (.int .i64 p.1) ∧ W.cell? (a.add (j * 2 + 1)) = some (.int .i64 p.2) := by
      intro j hj
      obtain ⟨g0, g1, t0, t1⟩ := hcell j (by omega)
      obtain ⟨x0, e0, _⟩ := DataW.trod_int hi0 t0
      obtain ⟨x1, e1, _⟩ := DataW.trod_int hi1 t1
      simp at e0 e1
      exact ⟨(x0, x1), by rw [g0, e0], by rw [g1, e1]⟩
    obtain ⟨q, hq⟩ := Deep.choose_lt one
    refine ⟨some a, n, m, (List.range n).map fun j => (q j).1, (List.range n).map fun j => (q j).2, rfl, hl, by omega, fun h0 => ?_⟩
    have hs : a.spot = none := by
      have := World.cell?_spot (hq 0 h0).1
      simpa [Addr.add] using this
    obtain ⟨b, off, sp⟩ := a
    subst hs
    have ap : ∀ k, (⟨b, off, none⟩ : Addr).add k = ⟨b, off + k, none⟩ := fun k => by unfold Addr.add; split <;> simp_all
    refine ⟨b, off, rfl, fun j hj => ?_⟩
    obtain ⟨g0, g1⟩ := hq j hj
    rw [ap] at g0 g1
    simp only [List.getD_eq_getElem?_getD, List.getElem?_map, List.getElem?_range hj, Option.map_some, Option.getD_some]
    exact ⟨g0, by simpa [Nat.add_assoc] using g1⟩
end
end Go.Proofs.Ytlbhmbbmpmhcjaa.shapes
