/- A struct of four whole numbers and a struct of five, by value, opened. -/
import Derived.Test.YtobkcedmjeidfaaDoorMsgShape
import Derived.Test.YtobkcedmjeidfaaDoorGramPure
set_option linter.unusedVariables false
set_option linter.unusedSimpArgs false
namespace Go.Proofs.YtobkcedmjeidfaaDoor.shapes
open Go.ChangeShapes Go.WideShapes Go.ChangeAt Go.RowKit Go.Proofs.YtobkcedmjeidfaaDoorW.PrintWords Go.Proofs.YtobkcedmjeidfaaDoor.base Go.Proofs.YtobkcedmjeidfaaDoor.wirep Go.Proofs.YtobkcedmjeidfaaDoor.gramp

section
variable {H : Type} {enc : TypeId × Value → H} {P : Program} {W : World} {base : Nat}
theorem nine {cs : Array Value} (h : cs.size = 9) : ∃ a b c d e f g h i, cs = #[a, b, c, d, e, f, g, h, i] := by
  obtain ⟨l⟩ := cs
  match l, h with
  | [a, b, c, d, e, f, g, h, i], _ => exact ⟨a, b, c, d, e, f, g, h, i, rfl⟩
theorem openGram {t ti tm : TypeId} {f0 f1 f2 f3 f4 m0 m1 m2 m3 m4 : Field} {v : Value} {d : DataW H} {ps : List MemPlace} (ht : P.underlying t = some (.struct #[f0, f1, f2, f3, f4])) (htm : P.underlying tm = some (.struct #[m0, m1, m2, m3, m4])) (hi : P.underlying ti = some (.int .i64)) (ci : P.cellsOf ti = 1) (cm : P.cellsOf tm = 5) (hC : P.cellsOf t = 9)
    (hT : [f0, f1, f2, f3, f4].map (fun f => (f.type, f.offset)) = [(ti, 0), (ti, 1), (ti, 2), (ti, 3), (tm, 4)]) (hM : [m0, m1, m2, m3, m4].map (fun f => (f.type, f.offset)) = [(ti, 0), (ti, 1), (ti, 2), (ti, 3), (ti, 4)])
    (hv : Value.okWide P W .any base t v) (h : DataW.Trod enc P W 0 (fun _ => true) true t v d ps) :
    ∃ g : G, v = g.agg ∧ g.I := by
  simp only [Value.okWide, ht] at hv
  obtain ⟨cs, rfl, hsz, _⟩ := hv
  obtain ⟨c0, c1, c2, c3, c4, c5, c6, c7, c8, rfl⟩ := nine (hsz.trans hC)
  obtain ⟨fuel, hf⟩ := h
  simp only [List.map_cons, List.map_nil, List.cons.injEq, Prod.mk.injEq, and_true] at hT hM
  obtain ⟨⟨t0, o0⟩, ⟨t1, o1⟩, ⟨t2, o2⟩, ⟨t3, o3⟩, t4, o4⟩ := hT
  obtain ⟨⟨u0, p0⟩, ⟨u1, p1⟩, ⟨u2, p2⟩, ⟨u3, p3⟩, u4, p4⟩ := hM
  obtain ⟨xs, m, hk, hxy, _, hxl, hel⟩ := DataW.trod_struct ht hf
  match xs, hxl with
  | [y0, y1, y2, y3, y4], _ =>
    have one : ∀ (m : Nat) (c : Value) (y : DataW H × List MemPlace), DataW.trod enc P W 0 (fun _ => true) true m ti [c] = some y → ∃ n, c = .int .i64 n ∧ -9223372036854775808 ≤ n ∧ n ≤ 9223372036854775807 := by
      intro m c y h3
      obtain ⟨n, hn, _, hw⟩ := DataW.trod_int hi h3
      simp at hn
      exact ⟨n, hn, bounds_i64 hw⟩
    have g0 := hel 0 f0 rfl
    have g1 := hel 1 f1 rfl
    have g2 := hel 2 f2 rfl
    have g3 := hel 3 f3 rfl
    have g4 := hel 4 f4 rfl
    simp [Value.cells, t0, t1, t2, t3, t4, o0, o1, o2, o3, o4, ci, cm] at g0 g1 g2 g3 g4
    obtain ⟨n0, rfl, h0⟩ := one _ _ _ g0
    obtain ⟨n1, rfl, h1⟩ := one _ _ _ g1
    obtain ⟨n2, rfl, h2⟩ := one _ _ _ g2
    obtain ⟨n3, rfl, h3⟩ := one _ _ _ g3
    obtain ⟨zs, m', hk', hxy', _, hzl, hel'⟩ := DataW.trod_struct htm g4
    match zs, hzl with
    | [z0, z1, z2, z3, z4], _ =>
      have k0 := hel' 0 m0 rfl
      have k1 := hel' 1 m1 rfl
      have k2 := hel' 2 m2 rfl
      have k3 := hel' 3 m3 rfl
      have k4 := hel' 4 m4 rfl
      simp [u0, u1, u2, u3, u4, p0, p1, p2, p3, p4, ci] at k0 k1 k2 k3 k4
      obtain ⟨n4, rfl, h4⟩ := one _ _ _ k0
      obtain ⟨n5, rfl, h5⟩ := one _ _ _ k1
      obtain ⟨n6, rfl, h6⟩ := one _ _ _ k2
      obtain ⟨n7, rfl, h7⟩ := one _ _ _ k3
      obtain ⟨n8, rfl, h8⟩ := one _ _ _ k4
      exact ⟨⟨n0, n1, n2, n3, ⟨n4, n5, n6, n7, n8⟩⟩, rfl, h0, h1, h2, h3, h4, h5, h6, h7, h8⟩
end
end Go.Proofs.YtobkcedmjeidfaaDoor.shapes
