/- The document's disk: its raw writes, Arm; append to its slices. -/
import Derived.Test.YtbmdglbhmianjaaRefRep
import Derived.Test.YtbmdglbhmianjaaDiskWalk
import Derived.Test.YtbmdglbhmianjaaOrdT
import Derived.ArgAppend
set_option linter.unusedVariables false
set_option linter.unusedSimpArgs false
namespace Go.Proofs.Ytbmdglbhmianjaa.refw
open Go.RowKit Go.Proofs.YtbmdglbhmianjaaW.PrintWords Go.Proofs.Ytbmdglbhmianjaa.base Go.Proofs.Ytbmdglbhmianjaa.mem Go.Proofs.Ytbmdglbhmianjaa.keep Go.Proofs.Ytbmdglbhmianjaa.diskp Go.Proofs.Ytbmdglbhmianjaa.diskr Go.Proofs.Ytbmdglbhmianjaa.refr

theorem run_appF {W : World} {base n c m c' : Nat} {A A' : Option Addr} {xs ys : List Int} (ty : TypeId) (HO : OwF W base ⟨A, n, c⟩ xs) (HR : RdB W A' m ys) (hbase : base ≤ W.heap.size) (hl : n + m ≤ 140737488355328) :
    ∃ A1 n1 c1 w1, (Builtin.append_ #[22, 22] ty #[.slice A n c, .slice A' m c']).run Try.prog W = .ok (.slice A1 n1 c1) w1 ∧ OwF w1 base ⟨A1, n1, c1⟩ (xs ++ ys) ∧ W.grownBy w1 (Value.slice A n c).ownBlock ∧ (∀ j, (Value.slice A1 n1 c1).ownBlock = some j → (Value.slice A n c).ownBlock = some j ∨ W.heap.size ≤ j) := by
  obtain ⟨c2, h, e⟩ := HO
  dsimp only at h e
  by_cases hc : c = c2
  · subst hc
    obtain ⟨A1, n1, c1, w1, h1, h2, h3, h4⟩ := run_appH (c' := c') ty h HR hbase hl
    exact ⟨A1, n1, c1, w1, h1, OwF.of h2, h3, h4⟩
  · obtain rfl : c = n := by omega
    rcases Nat.eq_zero_or_pos m with h0 | h0
    · subst h0
      obtain rfl : ys = [] := List.eq_nil_of_length_eq_zero HR.len
      obtain ⟨i0, hi, hzz⟩ := Option.map_eq_some_iff.1 infoB
      have hrun : (Builtin.append_ #[22, 22] ty #[.slice A c c, .slice A' 0 c']).run Try.prog W = .ok (.slice A c c) W := by
        cases A <;> cases A' <;> simp [Builtin.append_, run_underlying Try.underlying22, sizeOf, typeInfo, hi, Builtin.lenOf, Builtin.firstCells, storeCells, loadCells, loadCellsFrom, Result.andThen]
      exact ⟨A, c, c, W, hrun, ⟨c2, by rw [List.append_nil]; exact h, .inr rfl⟩, World.grownBy.refl W _, fun j hj => .inl hj⟩
    · obtain ⟨ad, rfl, _⟩ := HR.at_ 0 h0
      rcases A with _ | b
      · exfalso
        rcases h.1.2 with ⟨hv, _⟩ | ⟨g, cap, cur, hv, _⟩
        · injection hv with e1 e2 e3
          exact hc (by rw [e2, e3])
        · injection hv with e1
          cases e1
      · obtain ⟨i0, hi, hzz⟩ := Option.map_eq_some_iff.1 infoB
        simp only [Prod.mk.injEq] at hzz
        obtain ⟨hz0, hz1, hz2⟩ := hzz
        obtain ⟨v1, w1, hr, ho, hg⟩ := run_append_arg_grows (P := Try.prog) (w := W) 22 ty 5 i0 (.int .u8 0) 1 1 Try.underlying22 hi hz0 hz1 hz2 rfl (by decide) b c c (nums .u8 xs) (by rw [nums_length, h.len]; omega) (numsRd h.rd) ad m c' (nums .u8 ys) (by rw [nums_length, HR.len]; omega) (numsRd HR) (by omega) (by unfold maxLen; omega) (by omega)
        obtain ⟨A1, c1, rfl⟩ := own_slice ho
        have hO : OwB w1 W.heap.size A1 (c + m) c1 (xs ++ ys) := ⟨by rw [nums_append]; exact ho, h.2.append HR.2⟩
        refine ⟨A1, c + m, c1, w1, hr, OwF.of (OwB.less hO hbase), ⟨hg.os, hg.tape, hg.output, hg.size, fun k hk _ => hg.block k hk (by simp)⟩, fun j hj => .inr (OwB.blk hO j hj).1⟩
section
variable {ops : Array Oper} {o : Oper} {a : Act} {K : Act → World → Prop} {Q : Exit → Act → World → Prop} {R : Prop}
theorem stepAppF {W : World} {base : Nat} (hgd : o.guard = none) (s x : Operand)
    (ho : o.op = .call { callee := .builtin .append, args := #[s, x], argTypes := #[22, 22] })
    {A : Option Addr} {n c : Nat} {xs : List Int} {A' : Option Addr} {m c' : Nat} {ys : List Int} (hs : a.eval s = .slice A n c) (hx : a.eval x = .slice A' m c')
    (HO : OwF W base ⟨A, n, c⟩ xs) (HR : RdB W A' m ys) (hbase : base ≤ W.heap.size) (hl : n + m ≤ 140737488355328)
    (h : ∀ A1 n1 c1 w1, OwF w1 base ⟨A1, n1, c1⟩ (xs ++ ys) → W.grownBy w1 (Value.slice A n c).ownBlock → (∀ j, (Value.slice A1 n1 c1).ownBlock = some j → (Value.slice A n c).ownBlock = some j ∨ W.heap.size ≤ j) → K (a.put o.dst (.slice A1 n1 c1)) w1) :
    if Region.wanted o (yielded ops a.tmps) = true then Oper.wp Try.prog o a W K Q else R := by
  have hw : Region.wanted o (yielded ops a.tmps) = true := by simp [Region.wanted, hgd]
  rw [if_pos hw]
  obtain ⟨A1, n1, c1, w1, hrun, h1, h2, h3⟩ := run_appF (c' := c') o.type HO HR hbase hl
  unfold Oper.wp execOp
  simp only [ho, resolve, invoke, builtin, Sem.run_bind, Sem.run_pure, Result.andThen_ok, List.map_toArray, List.map_cons, List.map_nil, hs, hx, hrun]
  exact h A1 n1 c1 w1 h1 h2 h3
end
section
variable {w : World} {base p : Nat} {cs : Nat → Sl} {d : D}
set_option maxHeartbeats 1000000 in
theorem rraw_any (h : RAt w base p cs d) (hn : 0 ≤ d.n ∧ d.n ≤ 4611686018427387904) (ha : 0 ≤ d.a ∧ d.a ≤ 9223372036854775807) : Calls Try.prog 37 #[.pointer (some ⟨p, 0, none⟩)] w fun e w' => e = .returned (.bool (rawD d).2) ∧ RAt w' base p cs (rawD d).1 ∧ DStep w base p cs w' cs := by
  obtain ⟨_, _, _, _, _, e5, e6, _⟩ := h.cells
  have f5 := h.free 5
  have f6 := h.free 6
  have H := Lib.hid h
  have h5 := h.scal 5 (.int .i64 (d.n + 1)) (d' := ⟨d.b, d.off, d.n + 1, d.a, d.k⟩) rfl rfl
  have H5 := Lib.hid h5
  have S5 := Lib.hid (rstep_store h 5 (.int .i64 (d.n + 1)))
  have h6 := h5.scal 6 (.int .i64 (d.a - 1)) (d' := ⟨d.b, d.off, d.n + 1, d.a - 1, d.k⟩) rfl rfl
  have H6 := Lib.hid h6
  have S6 := Lib.hid (S5.out.trans (rstep_store h5 6 (.int .i64 (d.a - 1))))
  obtain ⟨hn0, hn1⟩ := hn
  obtain ⟨ha0, ha1⟩ := ha
  have HR0 : Hid (d.a = 0 → rawD d = (⟨d.b, d.off, d.n + 1, d.a, d.k⟩, false)) := Lib.hid fun e => if_pos e
  have HR1 : Hid (d.a ≠ 0 → rawD d = (⟨d.b, d.off, d.n + 1, d.a - 1, d.k⟩, d.a - 1 == 0)) := Lib.hid fun e => if_neg e
  clear h h5 h6
  generalize d.n = n at *
  generalize d.a = a at *
  by_cases h0 : a = 0
  · have HR := Lib.hid (HR0.out h0)
    have h0b : (a == 0) = true := by simp [h0]
    clear h0
    go_enter Try.func37, Try.ntmps37
    go_wp2
    go_ret
    exact ⟨by rw [HR.out]; rfl, by rw [HR.out]; exact H5.out, S5.out⟩
  · have HR := Lib.hid (HR1.out h0)
    have h0b : (a == 0) = false := by simp [h0]
    clear h0
    go_enter Try.func37, Try.ntmps37
    go_wp2
    go_ret
    exact ⟨by rw [HR.out]; rfl, by rw [HR.out]; exact H6.out, S6.out⟩
set_option maxHeartbeats 1000000 in
theorem rarm_any (h : RAt w base p cs d) (n k : Int) : Calls Try.prog 33 #[.pointer (some ⟨p, 0, none⟩), .int .i64 n, .int .i64 k] w fun e w' => e = .returned (.tuple #[]) ∧ RAt w' base p cs (armD d n k) ∧ DStep w base p cs w' cs := by
  obtain ⟨_, _, _, _, _, _, e6, e7⟩ := h.cells
  have f6 := h.free 6
  have f7 := h.free 7
  have h6 := h.scal 6 (.int .i64 n) (d' := ⟨d.b, d.off, d.n, n, d.k⟩) rfl rfl
  have s6 := rstep_store h 6 (.int .i64 n)
  have HA : Hid (armD d n k = ⟨d.b, d.off, d.n, max n 0, k⟩) := Lib.hid rfl
  by_cases h0 : n < 0
  · have h6' := h6.scal 6 (.int .i64 0) (d' := ⟨d.b, d.off, d.n, 0, d.k⟩) rfl rfl
    have s6' := s6.trans (rstep_store h6 6 (.int .i64 0))
    have H7 := Lib.hid (h6'.scal 7 (.int .i64 k) (d' := ⟨d.b, d.off, d.n, 0, k⟩) rfl rfl)
    have S7 := Lib.hid (s6'.trans (rstep_store h6' 7 (.int .i64 k)))
    have HM : Hid (max n 0 = 0) := Lib.hid (by omega)
    clear h h6 h6' s6 s6'
    go_enter Try.func33, Try.ntmps33
    go_wp2
    exact bodyPost_end (results_none rfl _ _ _) rfl ⟨rfl, by rw [HA.out, HM.out]; exact H7.out, S7.out⟩
  · have H7 := Lib.hid (h6.scal 7 (.int .i64 k) (d' := ⟨d.b, d.off, d.n, n, k⟩) rfl rfl)
    have S7 := Lib.hid (s6.trans (rstep_store h6 7 (.int .i64 k)))
    have HM : Hid (max n 0 = n) := Lib.hid (by omega)
    clear h h6 s6
    go_enter Try.func33, Try.ntmps33
    go_wp2
    exact bodyPost_end (results_none rfl _ _ _) rfl ⟨rfl, by rw [HA.out, HM.out]; exact H7.out, S7.out⟩
end
end Go.Proofs.Ytbmdglbhmianjaa.refw
