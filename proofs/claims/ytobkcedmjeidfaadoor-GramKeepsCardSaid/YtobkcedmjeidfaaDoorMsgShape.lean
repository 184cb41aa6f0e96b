/- A struct of five whole numbers that comes in by value, opened. -/
import Derived.Test.YtobkcedmjeidfaaDoorShapes
import Derived.Test.YtobkcedmjeidfaaDoorWirePure
set_option linter.unusedVariables false
set_option linter.unusedSimpArgs false
namespace Go.Proofs.YtobkcedmjeidfaaDoor.shapes
open Go.ChangeShapes Go.WideShapes Go.ChangeAt Go.RowKit Go.Proofs.YtobkcedmjeidfaaDoorW.PrintWords Go.Proofs.YtobkcedmjeidfaaDoor.base Go.Proofs.YtobkcedmjeidfaaDoor.wirep

section
variable {H : Type} {enc : TypeId × Value → H} {P : Program} {W : World} {base : Nat}
theorem five {cs : Array Value} (h : cs.size = 5) : ∃ a b c d e, cs = #[a, b, c, d, e] := by
  obtain ⟨l⟩ := cs
  match l, h with
  | [a, b, c, d, e], _ => exact ⟨a, b, c, d, e, rfl⟩
theorem openMsg {t ti : TypeId} {f0 f1 f2 f3 f4 : Field} {v : Value} {d : DataW H} {ps : List MemPlace} (ht : P.underlying t = some (.struct #[f0, f1, f2, f3, f4])) (hi : P.underlying ti = some (.int .i64)) (ci : P.cellsOf ti = 1) (hC : P.cellsOf t = 5)
    (hT : [f0, f1, f2, f3, f4].map (fun f => (f.type, f.offset)) = [(ti, 0), (ti, 1), (ti, 2), (ti, 3), (ti, 4)])
    (hv : Value.okWide P W .any base t v) (h : DataW.Trod enc P W 0 (fun _ => true) true t v d ps) :
    ∃ m : M, v = m.agg ∧ m.I := by
  simp only [Value.okWide, ht] at hv
  obtain ⟨cs, rfl, hsz, _⟩ := hv
  obtain ⟨c0, c1, c2, c3, c4, rfl⟩ := five (hsz.trans hC)
  obtain ⟨fuel, hf⟩ := h
  simp only [List.map_cons, List.map_nil, List.cons.injEq, Prod.mk.injEq, and_true] at hT
  obtain ⟨⟨t0, o0⟩, ⟨t1, o1⟩, ⟨t2, o2⟩, ⟨t3, o3⟩, t4, o4⟩ := hT
  obtain ⟨xs, m, hk, hxy, _, hxl, hel⟩ := DataW.trod_struct ht hf
  match xs, hxl with
  | [y0, y1, y2, y3, y4], _ =>
    have one : ∀ (c : Value) (y : DataW H × List MemPlace), DataW.trod enc P W 0 (fun _ => true) true m ti [c] = some y → ∃ n, c = .int .i64 n ∧ -9223372036854775808 ≤ n ∧ n ≤ 9223372036854775807 := by
      intro c y h3
      obtain ⟨n, hn, _, hw⟩ := DataW.trod_int hi h3
      simp at hn
      exact ⟨n, hn, bounds_i64 hw⟩
    have g0 := hel 0 f0 rfl
    have g1 := hel 1 f1 rfl
    have g2 := hel 2 f2 rfl
    have g3 := hel 3 f3 rfl
    have g4 := hel 4 f4 rfl
    simp [Value.cells, t0, t1, t2, t3, t4, o0, o1, o2, o3, o4, ci] at g0 g1 g2 g3 g4
    obtain ⟨n0, rfl, h0⟩ := one _ _ g0
    obtain ⟨n1, rfl, h1⟩ := one _ _ g1
    obtain ⟨n2, rfl, h2⟩ := one _ _ g2
    obtain ⟨n3, rfl, h3⟩ := one _ _ g3
    obtain ⟨n4, rfl, h4⟩ := one _ _ g4
    exact ⟨⟨n0, n1, n2, n3, n4⟩, rfl, h0, h1, h2, h3, h4⟩
end
end Go.Proofs.YtobkcedmjeidfaaDoor.shapes
