/- slices.Clone, Grow and Concat of bytes. -/
import Derived.Test.YtbmdglbhmianjaaKeepP
import Derived.Lib.AppendZerosOnto
import Derived.LoopN
import Derived.Laws.Cover3
import Derived.Lib.LazyBuf
set_option linter.unusedVariables false
set_option linter.unusedSimpArgs false
namespace Go.Proofs.Ytbmdglbhmianjaa.clone
open Go.RowKit Go.Proofs.YtbmdglbhmianjaaW.PrintWords Go.Proofs.Ytbmdglbhmianjaa.base Go.Proofs.Ytbmdglbhmianjaa.mem Go.Proofs.Ytbmdglbhmianjaa.keep

theorem eqlNil (A : Option Addr) (n c : Nat) (W : World) : (binOp .eql 22 (.slice A n c) (.slice none 0 0)).run Try.prog W = .ok (.bool A.isNone) W := by
  simp only [binOp]
  simp [run_equal_slice_nil W 22 5 A n c Try.underlying22]
def RetB (w : World) (xs : List Int) (e : Ending) (w' : World) : Prop := ∃ A n c, e = .returned (.slice A n c) ∧ OwB w' w.heap.size A n c xs ∧ Below w.heap.size w w'
theorem clone_any (A : Option Addr) (n c : Nat) (xs : List Int) (w : World) (hr : RdB w A n xs) (hn : n ≤ 140737488355328) :
    Calls Try.prog 26 #[.slice A n c] w (RetB w xs) := by
  have HR := Lib.hid hr
  have R0 := Lib.hid (Below.refl w.heap.size w)
  cases A with
  | none =>
    have h0 : n = 0 := by
      rcases Nat.eq_zero_or_pos n with h | h
      · exact h
      · obtain ⟨ad, he, _⟩ := hr.at_ 0 h; cases he
    subst h0
    obtain rfl : xs = [] := List.eq_nil_of_length_eq_zero hr.len
    clear hr
    go_enter Try.func26, Try.ntmps26
    have hen := fun W => eqlNil none 0 c W
    go_wp2
    go_ret
    exact ⟨none, 0, 0, rfl, OwB.nil _ _, Below.refl _ _⟩
  | some ad =>
    clear hr
    go_enter Try.func26, Try.ntmps26
    have hen := fun W => eqlNil (some ad) n c W
    go_wp2_with (first | (at_builtin; refine app (w0 := w) (base := w.heap.size) rfl (.tmp 5) (.tmp 6) rfl rfl rfl (OwB.lit0 w _ (Nat.le_refl _)) (HR.out.below (R0.out.alloc (Nat.le_refl _) _)) (R0.out.alloc (Nat.le_refl _) _) ?s2 ?l2 ?_; (case s2 => simp); (case l2 => omega); intro A2 n2 c2 w2 ho hb; have hl := ho.len; rw [List.nil_append] at ho; rw [List.nil_append, HR.out.len] at hl; subst hl; have HO2 := Lib.hid ho; have HB2 := Lib.hid hb; clear ho hb))
    go_ret
    exact ⟨A2, n, c2, rfl, HO2.out, HB2.out⟩
section
variable {ops : Array Oper} {rest : List Oper} {o : Oper} {a : Act} {Q : Exit → Act → World → Prop}
theorem zerosApp {W : World} (hgd : o.guard = none) (s x : Operand)
    (ho : o.op = .call { callee := .builtin .append, args := #[s, x], argTypes := #[22, 3] })
    {k : Nat} (hk : 0 < k) (hk2 : k ≤ 140737488355328) (hs : a.eval s = .slice none 0 0) (hx : a.eval x = .int .i64 (k : Int))
    (h : ∀ cap, k ≤ cap → OwB (W.drew.alloc (.cells (Builtin.zeroCells (Value.int .u8 0).cells k ++ Builtin.zeroCells (Value.int .u8 0).cells (cap - k)) 5)) W.heap.size (some ⟨W.heap.size, 0, none⟩) 0 cap [] →
      wpList Try.prog ops Q rest (a.put o.dst (.slice (some ⟨W.heap.size, 0, none⟩) k cap)) (W.drew.alloc (.cells (Builtin.zeroCells (Value.int .u8 0).cells k ++ Builtin.zeroCells (Value.int .u8 0).cells (cap - k)) 5))) : wpList Try.prog ops Q (o :: rest) a W := by
  obtain ⟨i0, hi, hzz⟩ := Option.map_eq_some_iff.1 infoB
  simp only [Prod.mk.injEq] at hzz
  obtain ⟨hz0, hz1, hz2⟩ := hzz
  have hrun := Lib.run_append_grow_zeros (P := Try.prog) W 22 3 o.type 5 i0 (.int .u8 0) .i64 .i64 Try.underlying22 Try.underlying3 hi hz0 none 0 0 [] (by simp [Builtin.firstCells]) k hk (by omega) (by omega) (by omega) (by rw [hz2]; omega) (by
    rw [hz2]
    have : Builtin.nextslicecap (0 + k) 0 = k := by unfold Builtin.nextslicecap; simp; omega
    rw [this]; omega)
  rw [Nat.zero_add] at hrun
  have hge := grownCap_ge W k 0 5
  have hmx := grownCap_le_maxLen W k 0 5 (by simp only [maxLen]; omega)
  generalize grownCap W k 0 5 = cap at hrun hge hmx
  refine wpList_plain hgd fun K hK => ?_
  unfold Oper.wp execOp
  simp only [ho, resolve, invoke, builtin, Sem.run_bind, Sem.run_pure, Result.andThen_ok, List.map_toArray, List.map_cons, List.map_nil, hs, hx, hrun]
  refine hK _ _ ?_
  simp only [Array.empty_append]
  have hsz : (Builtin.zeroCells (Value.int .u8 0).cells k ++ Builtin.zeroCells (Value.int .u8 0).cells (cap - k)).size = cap * 1 := by simp [Builtin.zeroCells, Value.cells]; omega
  have hh : (W.drew.alloc (.cells (Builtin.zeroCells (Value.int .u8 0).cells k ++ Builtin.zeroCells (Value.int .u8 0).cells (cap - k)) 5)).heap[W.heap.size]? = some (.cells (Builtin.zeroCells (Value.int .u8 0).cells k ++ Builtin.zeroCells (Value.int .u8 0).cells (cap - k)) 5 (0, 0)) := by
    exact Array.getElem?_push_size
  exact h cap hge ⟨⟨by simp [nums], .inr ⟨W.heap.size, cap, _, rfl, Nat.le_refl _, hh, by omega, hmx, hsz, by simp [nums]⟩⟩, By_of _ (by simp)⟩
end
theorem grow_any (k : Nat) (w : World) (hk : k ≤ 140737488355328) :
    Calls Try.prog 36 #[.slice none 0 0, .int .i64 (k : Int)] w (RetB w []) := by
  by_cases h0 : k = 0
  · subst h0
    go_enter Try.func36, Try.ntmps36
    go_wp2
    go_ret
    exact ⟨none, 0, 0, rfl, OwB.nil _ _, Below.refl _ _⟩
  · have hk0 : 0 < k := by omega
    clear h0
    go_enter Try.func36, Try.ntmps36
    go_wp2_with (at_builtin; go_must (refine zerosApp rfl (.tmp 20) (.tmp 21) rfl hk0 hk rfl rfl ?_; intro cap hcap ho; have HO := Lib.hid ho; have hB := Lib.hid (((Below.refl w.heap.size w).drew).alloc (Nat.le_refl _) (.cells (Builtin.zeroCells (Value.int .u8 0).cells k ++ Builtin.zeroCells (Value.int .u8 0).cells (cap - k)) 5)); clear ho; generalize w.drew.alloc (.cells (Builtin.zeroCells (Value.int .u8 0).cells k ++ Builtin.zeroCells (Value.int .u8 0).cells (cap - k)) 5) = w2 at HO hB))
    go_ret
    exact ⟨_, _, _, rfl, HO.out, hB.out⟩
set_option maxHeartbeats 1000000 in
theorem concat_any (g c : Nat) (xs ys : List Int) (w : World) (hr : RdBB w (some ⟨g, 0, none⟩) 2 [xs, ys]) (hl : xs.length + ys.length ≤ 140737488355328) :
    Calls Try.prog 29 #[.slice (some ⟨g, 0, none⟩) 2 c] w (RetB w (xs ++ ys)) := by
  obtain ⟨_, hgg, a1, m1, c1, h1, hc1, r1⟩ := hr.at_ 0 (by omega)
  cases hgg
  obtain ⟨_, hgg, a2, m2, c2, h2, hc2, r2⟩ := hr.at_ 1 (by omega)
  cases hgg
  rw [add_plain] at h1 h2
  have R1 : Hid (RdB w a1 m1 xs) := Lib.hid r1
  have R2 : Hid (RdB w a2 m2 ys) := Lib.hid r2
  have l1 : m1 + m2 ≤ 140737488355328 := by have e1 := R1.out.len; have e2 := R2.out.len; omega
  have C1 := Lib.hid h1
  have C2 := Lib.hid h2
  have e12 : ((m1 : Int) + (m2 : Int)) = ((m1 + m2 : Nat) : Int) := by omega
  have HG := Lib.hid (grow_any (m1 + m2) w l1)
  rw [← e12] at HG
  clear hr r1 r2 hl e12
  go_enter Try.func29, Try.ntmps29
  go_wp2
  refine wp_loop_rounds 3 ?_
  rw [rounds_succ]
  go_wp2
  rw [rounds_succ]
  go_wp2
  rw [rounds_succ]
  go_wp2_with fail
  refine HG.out.mono ?_
  rintro e w3 ⟨A3, n3, c3, rfl, ho, hb⟩
  have hn3 : n3 = 0 := ho.len.symm
  subst hn3
  have k1 : w3.cell? ⟨g, 0, none⟩ = some (.slice a1 m1 c1) := pw_cell_below hb C1.out
  have k2 : w3.cell? ⟨g, 1, none⟩ = some (.slice a2 m2 c2) := pw_cell_below hb C2.out
  have HO3 := Lib.hid ho
  have HB3 := Lib.hid hb
  have hs3 := hb.size
  have hgl := World.block_lt_of_cell? _ _ C1.out
  dsimp only at hgl
  have KK := Lib.hid (fun W (h : Below w.heap.size w W) => (show W.cell? ⟨g, 1, none⟩ = some (.slice a2 m2 c2) from pw_cell_below h C2.out))
  clear ho hb h1 h2
  go_wp2
  refine wp_loop_rounds 3 ?_
  rw [rounds_succ]
  go_wp2_with (first | (at_builtin; refine app (w0 := w) (base := w.heap.size) rfl (.tmp 31) (.tmp 32) rfl rfl rfl (HO3.out) (R1.out.below HB3.out) (HB3.out) ?s4 ?l4 ?_; (case s4 => exact hs3); (case l4 => omega); intro A4 n4 c4 w4 ho hb; have hl4 := ho.len; rw [List.nil_append, R1.out.len] at hl4; subst hl4; rw [List.nil_append] at ho; have HO4 := Lib.hid ho; have HB4 := Lib.hid hb; have hs4 := hb.size; have k3 := KK.out _ hb; clear ho hb))
  rw [rounds_succ]
  go_wp2_with (first | (at_builtin; refine app (w0 := w) (base := w.heap.size) rfl (.tmp 31) (.tmp 32) rfl rfl rfl (HO4.out) (R2.out.below HB4.out) (HB4.out) ?s5 ?l5 ?_; (case s5 => exact hs4); (case l5 => omega); intro A5 n5 c5 w5 ho hb; have HO5 := Lib.hid ho; have HB5 := Lib.hid hb; clear ho hb))
  rw [rounds_succ]
  go_wp2
  go_ret
  exact ⟨_, _, _, rfl, HO5.out, HB5.out⟩
end Go.Proofs.Ytbmdglbhmianjaa.clone
