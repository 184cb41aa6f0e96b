/- How arguments of the laws are opened: slices of bytes, slices of whole numbers, slices of slices of bytes. -/
import Derived.Test.YtjebmlfcdnpepaaDoorBase
import Derived.Test.YtjebmlfcdnpepaaDoorWSized
import Derived.ProofKit
import Derived.OpenShut
import Derived.Carry
import Derived.Deep.Matrix
import Derived.Lib.SmallJoins
set_option linter.unusedVariables false
set_option linter.unusedSimpArgs false
namespace Go.Proofs.YtjebmlfcdnpepaaDoor.shapes
open Go.ChangeShapes Go.WideShapes Go.ChangeAt Go.RowKit Go.Proofs.YtjebmlfcdnpepaaDoorW.PrintWords Go.Proofs.YtjebmlfcdnpepaaDoor.base

section
variable {H : Type} {enc : TypeId × Value → H} {P : Program} {W : World} {base : Nat}

theorem places_lt {t : TypeId} {v : Value} {d : DataW H} {ps : List MemPlace} (h : DataW.Trod enc P W 0 (fun _ => true) true t v d ps) : ∀ x ∈ ps, x.block < W.heap.size := by
  obtain ⟨m, hm⟩ := h
  exact DataW.trod_lt m _ _ _ hm

/-- a slice of whole numbers -/
theorem openInts {t e : TypeId} {k : IntKind} {v : Value} {d : DataW H} {ps : List MemPlace} (ht : P.underlying t = some (.slice e)) (he : P.underlying e = some (.int k)) (hc : P.cellsOf e = 1)
    (hv : Value.okWide P W .any base t v) (h : DataW.Trod enc P W 0 (fun _ => true) true t v d ps) :
    ∃ (A : Option Addr) (n c : Nat) (xs : List Int), v = .slice A n c ∧ n ≤ c ∧ c ≤ 9223372036854775807 ∧ ReadsInt W k A n xs ∧ (∀ x ∈ xs, (Lit.int k x).wf = true) ∧ (d = .nil ∧ n = 0 ∨ ∃ l r : List (DataW H), d = .slice l r ∧ l.length = n) := by
  obtain ⟨A, n, c, rfl⟩ := okWide_slice ht hv
  obtain ⟨fuel, hf⟩ := h
  rcases open_ints ht he hc hf with ⟨hcs, hx⟩ | ⟨x, l, c', zs, hcs, _, hl, hm, hz, hx, hcell, hwz⟩
  · simp [Value.cells] at hcs
    obtain ⟨rfl, rfl, rfl⟩ := hcs
    exact ⟨none, 0, 0, [], rfl, Nat.le_refl _, by omega, ⟨rfl, by omega, fun h => absurd h (by omega)⟩, by simp, .inl ⟨(Prod.mk.inj hx).1, rfl⟩⟩
  · simp [Value.cells] at hcs
    obtain ⟨rfl, rfl, rfl⟩ := hcs
    simp at hz
    unfold maxLen at hm
    refine ⟨some x, n, c, zs.take n, rfl, hl, hm, ⟨by rw [List.length_take]; omega, by omega, fun h0 => ⟨x, rfl, fun j hj => ?_⟩⟩, fun y hy => hwz y (List.mem_of_mem_take hy), .inr ⟨_, _, (Prod.mk.inj hx).1, by simp [lits]; omega⟩⟩
    rw [hcell j (by omega)]
    simp [List.getD_eq_getElem?_getD, List.getElem?_take, hj]

theorem openBytes {t e : TypeId} {v : Value} {d : DataW H} {ps : List MemPlace} (ht : P.underlying t = some (.slice e)) (he : P.underlying e = some (.int .u8)) (hc : P.cellsOf e = 1)
    (hv : Value.okWide P W .any base t v) (h : DataW.Trod enc P W 0 (fun _ => true) true t v d ps) :
    ∃ (A : Option Addr) (n c : Nat) (xs : List Int), v = .slice A n c ∧ n ≤ c ∧ c ≤ 9223372036854775807 ∧ RdB W A n xs ∧ (d = .nil ∧ n = 0 ∨ ∃ l r : List (DataW H), d = .slice l r ∧ l.length = n) := by
  obtain ⟨A, n, c, xs, h1, h2, h3, h4, h5, h6⟩ := openInts ht he hc hv h
  exact ⟨A, n, c, xs, h1, h2, h3, ⟨h4, By_of _ fun x hx => bounds_u8 (h5 x hx)⟩, h6⟩

/-- a slice of slices of bytes -/
theorem openRows {t e q : TypeId} {v : Value} {d : DataW H} {ps : List MemPlace} (ht : P.underlying t = some (.slice e)) (he : P.underlying e = some (.slice q)) (hq : P.underlying q = some (.int .u8)) (ce : P.cellsOf e = 1) (cq : P.cellsOf q = 1)
    (hv : Value.okWide P W .any base t v) (h : DataW.Trod enc P W 0 (fun _ => true) true t v d ps) :
    ∃ (A : Option Addr) (n c : Nat) (xss : List (List Int)), v = .slice A n c ∧ n ≤ c ∧ c ≤ 9223372036854775807 ∧ RdBB W A n xss ∧
      (d = .nil ∧ n = 0 ∨ ∃ l r : List (DataW H), d = .slice l r ∧ l.length = n ∧ ∀ j, j < n → l[j]? = some .nil ∧ (xss.getD j []).length = 0 ∨ ∃ l' r', l[j]? = some (.slice l' r') ∧ (xss.getD j []).length = l'.length) := by
  obtain ⟨A, n, c, rfl⟩ := okWide_slice ht hv
  obtain ⟨fuel, hf⟩ := h
  rcases Deep.open_int_rows ht he hq ce cq hf with ⟨hcs, hx⟩ | ⟨x, l, c', A', L, C, Z, hcs, _, hl, hm, hx, hcell⟩
  · simp [Value.cells] at hcs
    obtain ⟨rfl, rfl, rfl⟩ := hcs
    exact ⟨none, 0, 0, [], rfl, Nat.le_refl _, by omega, ⟨rfl, by omega, fun h => absurd h (by omega)⟩, .inl ⟨(Prod.mk.inj hx).1, rfl⟩⟩
  · simp [Value.cells] at hcs
    obtain ⟨rfl, rfl, rfl⟩ := hcs
    unfold maxLen at hm
    have hg : ∀ j, j < n → ((List.range n).map fun r => (Z r).take (L r)).getD j [] = (Z j).take (L j) := by
      intro j hj
      simp [List.getD_eq_getElem?_getD, hj]
    refine ⟨some x, n, c, (List.range n).map fun r => (Z r).take (L r), rfl, hl, hm, ⟨by simp, by omega, fun h0 => ⟨x, rfl, fun j hj => ?_⟩⟩, .inr ⟨_, _, (Prod.mk.inj hx).1, by simp, fun j hj => ?_⟩⟩
    · obtain ⟨h1, h2, h3, h4, h5, h6, h7⟩ := hcell j (by omega)
      unfold maxLen at h3
      refine ⟨_, _, _, h1, h2, ?_⟩
      rw [hg j hj]
      refine ⟨⟨by rw [List.length_take]; omega, by omega, fun hp => ?_⟩, By_of _ fun y hy => bounds_u8 (h5 y (List.mem_of_mem_take hy))⟩
      cases ha : A' j with
      | none => have := h6 ha; omega
      | some a' =>
        refine ⟨a', rfl, fun i hi => ?_⟩
        rw [(h7 a' ha).2 i (by omega)]
        simp [List.getD_eq_getElem?_getD, List.getElem?_take, hi]
    · obtain ⟨h1, h2, h3, h4, h5, h6, h7⟩ := hcell j (by omega)
      rw [hg j hj]
      have hl' : ((List.range n).map fun r => Deep.intRow (H := H) .u8 (A' r) (L r) (Z r))[j]? = some (Deep.intRow .u8 (A' j) (L j) (Z j)) := by simp [hj]
      rw [hl']
      have hlen : ((Z j).take (L j)).length = L j := by rw [List.length_take]; omega
      rw [hlen]
      cases ha : A' j with
      | none => left; exact ⟨by simp [Deep.intRow], by have := h6 ha; omega⟩
      | some a' => right; exact ⟨_, _, by simp [Deep.intRow]; exact ⟨rfl, rfl⟩, by simp [lits]; omega⟩

/-- an array of four bytes, by value -/
theorem openBytes4 {t e : TypeId} {v : Value} {d : DataW H} {ps : List MemPlace} (ht : P.underlying t = some (.array 4 e)) (he : P.underlying e = some (.int .u8)) (hc : P.cellsOf e = 1) (hC : P.cellsOf t = 4)
    (hv : Value.okWide P W .any base t v) (h : DataW.Trod enc P W 0 (fun _ => true) true t v d ps) :
    ∃ m0 m1 m2 m3 : Int, v = .agg #[.int .u8 m0, .int .u8 m1, .int .u8 m2, .int .u8 m3] ∧ By [m0, m1, m2, m3] := by
  simp only [Value.okWide, ht] at hv
  obtain ⟨cs, rfl, hsz, _⟩ := hv
  obtain ⟨c0, c1, c2, c3, rfl⟩ := Joins.array4 (hsz.trans hC)
  obtain ⟨fuel, hf⟩ := h
  obtain ⟨xs, m, _, _, _, hl, hel⟩ := DataW.trod_array ht hf
  have one : ∀ (i : Nat) (hi : i < 4) (c : Value), [c0, c1, c2, c3][i]? = some c → ∃ n, c = .int .u8 n ∧ 0 ≤ n ∧ n ≤ 255 := by
    intro i hi c hci
    have h1 := hel i hi
    rw [hc, Nat.mul_one] at h1
    have h2 : (([c0, c1, c2, c3] : List Value).drop i).take 1 = [c] := by
      match i, hi, hci with
      | 0, _, hci => simp at hci; subst hci; rfl
      | 1, _, hci => simp at hci; subst hci; rfl
      | 2, _, hci => simp at hci; subst hci; rfl
      | 3, _, hci => simp at hci; subst hci; rfl
    have h3 : DataW.trod enc P W 0 (fun _ => true) true m e [c] = xs[i]? := by rw [← h2]; exact h1
    rw [List.getElem?_eq_getElem (by omega)] at h3
    obtain ⟨n, hn, _, hw⟩ := DataW.trod_int he h3
    simp at hn
    exact ⟨n, hn, bounds_u8 hw⟩
  obtain ⟨m0, rfl, h0⟩ := one 0 (by decide) c0 rfl
  obtain ⟨m1, rfl, h1⟩ := one 1 (by decide) c1 rfl
  obtain ⟨m2, rfl, h2⟩ := one 2 (by decide) c2 rfl
  obtain ⟨m3, rfl, h3⟩ := one 3 (by decide) c3 rfl
  refine ⟨m0, m1, m2, m3, rfl, By_of _ fun x hx => ?_⟩
  simp only [List.mem_cons, List.not_mem_nil, or_false] at hx
  rcases hx with rfl | rfl | rfl | rfl
  · exact h0
  · exact h1
  · exact h2
  · exact h3
end
end Go.Proofs.YtjebmlfcdnpepaaDoor.shapes
