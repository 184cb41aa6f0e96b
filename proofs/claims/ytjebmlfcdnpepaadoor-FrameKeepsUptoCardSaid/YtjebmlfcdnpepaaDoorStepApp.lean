/- append as one step of a region that draws its order. -/
import Derived.Test.YtjebmlfcdnpepaaDoorMem
import Derived.Maps.AppendAt
set_option linter.unusedVariables false
set_option linter.unusedSimpArgs false
namespace Go.Proofs.YtjebmlfcdnpepaaDoor.mem
open Go.RowKit Go.Proofs.YtjebmlfcdnpepaaDoorW.PrintWords Go.Proofs.YtjebmlfcdnpepaaDoor.base
theorem run_app {W : World} {base n c m c' : Nat} {A A' : Option Addr} {xs ys : List Int} (ty : TypeId) (HO : OwB W base A n c xs) (HR : RdB W A' m ys) (hbase : base ≤ W.heap.size) (hl : n + m ≤ 140737488355328) :
    ∃ A1 n1 c1 w1, (Builtin.append_ #[22, 22] ty #[.slice A n c, .slice A' m c']).run Tryd.prog W = .ok (.slice A1 n1 c1) w1 ∧ OwB w1 base A1 n1 c1 (xs ++ ys) ∧ W.grownBy w1 (Value.slice A n c).ownBlock := by
  obtain ⟨i0, hi, hzz⟩ := Option.map_eq_some_iff.1 infoB
  simp only [Prod.mk.injEq] at hzz
  obtain ⟨hz0, hz1, hz2⟩ := hzz
  rcases A' with _ | ad
  · have h0 : m = 0 := by
      rcases Nat.eq_zero_or_pos m with h0 | h0
      · exact h0
      · obtain ⟨ad, h, _⟩ := HR.at_ 0 h0
        cases h
    subst h0
    obtain rfl : ys = [] := List.eq_nil_of_length_eq_zero HR.len
    have hc := HO.cap
    have hrun : (Builtin.append_ #[22, 22] ty #[.slice A n c, .slice none 0 c']).run Tryd.prog W = .ok (.slice A n c) W := by
      cases A <;> simp [Builtin.append_, run_underlying Tryd.underlying22, sizeOf, typeInfo, hi, Builtin.lenOf, Builtin.firstCells, storeCells, hc, Result.andThen]
    exact ⟨A, n, c, W, hrun, by rw [List.append_nil]; exact HO, World.grownBy.refl W _⟩
  · obtain ⟨v1, w1, hr, h2, h3, _, h5⟩ := run_append_own_at (P := Tryd.prog) W base 22 ty 5 i0 (.int .u8 0) 1 1 Tryd.underlying22 hi hz0 hz1 hz2 rfl (by omega) (.slice A n c) n (nums .u8 xs) HO.1 ad m c' (nums .u8 ys) (by rw [nums_length, HR.len]; omega) (numsRd HR)
      (by intro u hu; simp only [nums, List.mem_map] at hu; obtain ⟨q, _, rfl⟩ := hu; rfl) (by simp only [maxLen]; omega) (by omega) hbase
    obtain ⟨A1, c1, rfl⟩ := own_slice h2
    exact ⟨A1, n + m, c1, w1, hr, ⟨by rw [nums_append]; exact h2, HO.2.append HR.2⟩, h3⟩
theorem run_appH {W : World} {base n c m c' : Nat} {A A' : Option Addr} {xs ys : List Int} (ty : TypeId) (HO : OwB W base A n c xs) (HR : RdB W A' m ys) (hbase : base ≤ W.heap.size) (hl : n + m ≤ 140737488355328) :
    ∃ A1 n1 c1 w1, (Builtin.append_ #[22, 22] ty #[.slice A n c, .slice A' m c']).run Tryd.prog W = .ok (.slice A1 n1 c1) w1 ∧ OwB w1 base A1 n1 c1 (xs ++ ys) ∧ W.grownBy w1 (Value.slice A n c).ownBlock ∧ (∀ j, (Value.slice A1 n1 c1).ownBlock = some j → (Value.slice A n c).ownBlock = some j ∨ W.heap.size ≤ j) := by
  obtain ⟨i0, hi, hzz⟩ := Option.map_eq_some_iff.1 infoB
  simp only [Prod.mk.injEq] at hzz
  obtain ⟨hz0, hz1, hz2⟩ := hzz
  rcases A' with _ | ad
  · have h0 : m = 0 := by
      rcases Nat.eq_zero_or_pos m with h0 | h0
      · exact h0
      · obtain ⟨ad, h, _⟩ := HR.at_ 0 h0
        cases h
    subst h0
    obtain rfl : ys = [] := List.eq_nil_of_length_eq_zero HR.len
    have hc := HO.cap
    have hrun : (Builtin.append_ #[22, 22] ty #[.slice A n c, .slice none 0 c']).run Tryd.prog W = .ok (.slice A n c) W := by
      cases A <;> simp [Builtin.append_, run_underlying Tryd.underlying22, sizeOf, typeInfo, hi, Builtin.lenOf, Builtin.firstCells, storeCells, hc, Result.andThen]
    exact ⟨A, n, c, W, hrun, by rw [List.append_nil]; exact HO, World.grownBy.refl W _, fun j hj => .inl hj⟩
  · obtain ⟨v1, w1, hr, h2, h3, h4, h5⟩ := run_append_own_at (P := Tryd.prog) W base 22 ty 5 i0 (.int .u8 0) 1 1 Tryd.underlying22 hi hz0 hz1 hz2 rfl (by omega) (.slice A n c) n (nums .u8 xs) HO.1 ad m c' (nums .u8 ys) (by rw [nums_length, HR.len]; omega) (numsRd HR)
      (by intro u hu; simp only [nums, List.mem_map] at hu; obtain ⟨q, _, rfl⟩ := hu; rfl) (by simp only [maxLen]; omega) (by omega) hbase
    obtain ⟨A1, c1, rfl⟩ := own_slice h2
    refine ⟨A1, n + m, c1, w1, hr, ⟨by rw [nums_append]; exact h2, HO.2.append HR.2⟩, h3, fun j hj => ?_⟩
    rcases h5 with e | e
    · exact .inl (e.symm.trans hj)
    · rw [e] at hj
      cases hj
      exact .inr (Nat.le_refl _)
section
variable {ops : Array Oper} {o : Oper} {a : Act} {K : Act → World → Prop} {Q : Exit → Act → World → Prop} {R : Prop}
theorem stepApp {w0 W : World} {base : Nat} (hgd : o.guard = none) (s x : Operand)
    (ho : o.op = .call { callee := .builtin .append, args := #[s, x], argTypes := #[22, 22] })
    {A : Option Addr} {n c : Nat} {xs : List Int} {A' : Option Addr} {m c' : Nat} {ys : List Int} (hs : a.eval s = .slice A n c) (hx : a.eval x = .slice A' m c')
    (HO : OwB W base A n c xs) (HR : RdB W A' m ys) (HB : Below base w0 W) (hbase : base ≤ W.heap.size) (hl : n + m ≤ 140737488355328)
    (h : ∀ A1 n1 c1 w1, OwB w1 base A1 n1 c1 (xs ++ ys) → Below base w0 w1 → K (a.put o.dst (.slice A1 n1 c1)) w1) :
    if Region.wanted o (yielded ops a.tmps) = true then Oper.wp Tryd.prog o a W K Q else R := by
  have hw : Region.wanted o (yielded ops a.tmps) = true := by simp [Region.wanted, hgd]
  rw [if_pos hw]
  obtain ⟨A1, n1, c1, w1, hrun, h1, h2⟩ := run_app (c' := c') o.type HO HR hbase hl
  unfold Oper.wp execOp
  simp only [ho, resolve, invoke, builtin, Sem.run_bind, Sem.run_pure, Result.andThen_ok, List.map_toArray, List.map_cons, List.map_nil, hs, hx, hrun]
  exact h A1 n1 c1 w1 h1 (HB.grown h2 hbase (own_base HO.1))
theorem stepAppH {W : World} {base : Nat} (hgd : o.guard = none) (s x : Operand)
    (ho : o.op = .call { callee := .builtin .append, args := #[s, x], argTypes := #[22, 22] })
    {A : Option Addr} {n c : Nat} {xs : List Int} {A' : Option Addr} {m c' : Nat} {ys : List Int} (hs : a.eval s = .slice A n c) (hx : a.eval x = .slice A' m c')
    (HO : OwB W base A n c xs) (HR : RdB W A' m ys) (hbase : base ≤ W.heap.size) (hl : n + m ≤ 140737488355328)
    (h : ∀ A1 n1 c1 w1, OwB w1 base A1 n1 c1 (xs ++ ys) → W.grownBy w1 (Value.slice A n c).ownBlock → (∀ j, (Value.slice A1 n1 c1).ownBlock = some j → (Value.slice A n c).ownBlock = some j ∨ W.heap.size ≤ j) → K (a.put o.dst (.slice A1 n1 c1)) w1) :
    if Region.wanted o (yielded ops a.tmps) = true then Oper.wp Tryd.prog o a W K Q else R := by
  have hw : Region.wanted o (yielded ops a.tmps) = true := by simp [Region.wanted, hgd]
  rw [if_pos hw]
  obtain ⟨A1, n1, c1, w1, hrun, h1, h2, h3⟩ := run_appH (c' := c') o.type HO HR hbase hl
  unfold Oper.wp execOp
  simp only [ho, resolve, invoke, builtin, Sem.run_bind, Sem.run_pure, Result.andThen_ok, List.map_toArray, List.map_cons, List.map_nil, hs, hx, hrun]
  exact h A1 n1 c1 w1 h1 h2 h3
end
end Go.Proofs.YtjebmlfcdnpepaaDoor.mem
