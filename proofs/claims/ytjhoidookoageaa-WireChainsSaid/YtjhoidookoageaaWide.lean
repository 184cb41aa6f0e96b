/- append of bytes whose sum may pass 2^47: the row grows by a quarter at most there. -/
import Derived.Test.YtjhoidookoageaaMsgs
import Derived.OwnWalk
set_option linter.unusedVariables false
set_option linter.unusedSimpArgs false
namespace Go.Proofs.Ytjhoidookoageaa.msgs
open Go.RowKit Go.Proofs.YtjhoidookoageaaW.PrintWords Go.Proofs.Ytjhoidookoageaa.base Go.Proofs.Ytjhoidookoageaa.mem

theorem capWide {need old : Nat} (h : old < need) (hl : need ≤ 211106232532992) : Builtin.nextslicecap need old ≤ 281474976710656 := by
  unfold Builtin.nextslicecap
  split
  · omega
  · split
    · omega
    · rw [growBy_four]
      repeat' split
      all_goals omega
section
variable {ops : Array Oper} {rest : List Oper} {o : Oper} {a : Act} {Q : Exit → Act → World → Prop}
theorem appWide {w0 W : World} {base : Nat} (hgd : o.guard = none) (s x : Operand)
    (ho : o.op = .call { callee := .builtin .append, args := #[s, x], argTypes := #[22, 22] })
    {A : Option Addr} {n c : Nat} {xs : List Int} {A' : Option Addr} {m c' : Nat} {ys : List Int} (hs : a.eval s = .slice A n c) (hx : a.eval x = .slice A' m c')
    (HO : OwB W base A n c xs) (HR : RdB W A' m ys) (HB : Below base w0 W) (hbase : base ≤ W.heap.size) (hn : n ≤ 140737488355328) (hl : n + m ≤ 211106232532992)
    (h : ∀ A1 n1 c1 w1, OwB w1 base A1 n1 c1 (xs ++ ys) → Below base w0 w1 → W.grownBy w1 (Value.slice A n c).ownBlock → wpList Try.prog ops Q rest (a.put o.dst (.slice A1 n1 c1)) w1) : wpList Try.prog ops Q (o :: rest) a W := by
  rcases Nat.eq_zero_or_pos m with hm | hm
  · exact appB hgd s x ho hs hx HO HR HB hbase (by omega) h
  obtain ⟨i, hi, hzz⟩ := Option.map_eq_some_iff.1 infoB
  simp only [Prod.mk.injEq] at hzz
  obtain ⟨hz0, hz1, hz2⟩ := hzz
  obtain ⟨ad, rfl, _⟩ := HR.at_ 0 hm
  have hc := numsRd HR
  have hly : (nums .u8 ys).length = m * 1 := by rw [nums_length, HR.len]; omega
  have hlx : (nums .u8 xs).length = n * 1 := by rw [nums_length, HO.len]; omega
  have hone : ∀ u ∈ nums .u8 ys, u.oneCell' = true := by intro u hu; simp only [nums, List.mem_map] at hu; obtain ⟨q, _, rfl⟩ := hu; rfl
  have made : ∀ old, (W.drew.alloc (.cells ((nums .u8 xs).toArray ++ (nums .u8 ys).toArray ++ Builtin.zeroCells (Value.int .u8 0).cells (grownCap W (n + m) old 5 - (n + m))) 5)).ownsRow base 5 1 (.slice (some ⟨W.heap.size, 0, none⟩) (n + m) (grownCap W (n + m) old 5)) (n + m) (nums .u8 (xs ++ ys)) := by
    intro old
    have h1 := grownCap_ge W (n + m) old 5
    have h2 := grownCap_le_maxLen W (n + m) old 5 (by unfold maxLen; omega)
    refine ⟨by rw [nums_append, List.length_append, hlx, hly]; omega, .inr ⟨W.heap.size, _, _, rfl, hbase, heap_alloc_new W.drew _, h1, h2, ?_, ?_⟩⟩
    · simp only [Array.size_append, List.size_toArray, size_zeroCells, hlx, hly]
      have : (Value.int .u8 0).cells.size = 1 := rfl
      rw [this]
      omega
    · rw [nums_append, Array.toList_append, Array.toList_append]
      refine List.take_left' ?_
      rw [List.length_append, hlx, hly]; omega
  have told : ∀ (cs : Array Value) (row : Option Nat), W.grownBy (W.drew.alloc (.cells cs 5)) row := fun cs row => ⟨rfl, rfl, rfl, by simp, fun k hk _ => heap_alloc_old W.drew _ hk⟩
  have fin : ∀ v w1, (Builtin.append_ #[22, 22] o.type #[.slice A n c, .slice (some ad) m c']).run Try.prog W = .ok v w1 → w1.ownsRow base 5 1 v (n + m) (nums .u8 (xs ++ ys)) → W.grownBy w1 (Value.slice A n c).ownBlock → wpList Try.prog ops Q (o :: rest) a W := by
    intro v w1 hr hown hg
    obtain ⟨A1, c1, rfl⟩ := own_slice hown
    have hO : OwB w1 base A1 (n + m) c1 (xs ++ ys) := ⟨hown, HO.2.append HR.2⟩
    refine wpList_plain hgd fun K hK => ?_
    unfold Oper.wp execOp
    simp only [ho, resolve, invoke, builtin, Sem.run_bind, Sem.run_pure, Result.andThen_ok, List.map_toArray, List.map_cons, List.map_nil, hs, hx, hr]
    exact hK _ _ (h A1 _ c1 w1 hO (HB.grown hg hbase (own_base HO.1)) hg)
  obtain ⟨_, h2⟩ := HO.1
  rcases h2 with ⟨he, hn0⟩ | ⟨g, cap, cur, he, hb, hh, hnc, hcm, hcs, htake⟩
  · injection he with e1 e2 e3
    subst e1 e3 hn0
    obtain rfl : xs = [] := List.eq_nil_of_length_eq_zero HO.len
    have hr := run_append_nil (P := Try.prog) W 22 o.type 5 i (.int .u8 0) Try.underlying22 hi hz0 ad m c' (nums .u8 ys) (by rw [hly, hz1]) hc hm (by omega) (by rw [hz2]; omega)
    have hm0 := made 0
    simp only [Nat.zero_add, List.nil_append, nums, List.map_nil, Array.empty_append] at hm0 hr fin
    refine fin _ _ hr ?_ (told _ _)
    simpa using hm0
  · injection he with e1 e2 e3
    subst e1 e3
    by_cases hroom : n + m ≤ c
    · refine wpList_append_fits W hgd s x 22 ho base 5 i 1 Try.underlying22 hi hz1 g n c (nums .u8 xs) hs HO.1 ad m c' (nums .u8 ys) hx hly hc hone hroom ?_
      intro w1 hown hg
      have hO : OwB w1 base (some ⟨g, 0, none⟩) (n + m) c (xs ++ ys) := ⟨by rw [nums_append]; exact hown, HO.2.append HR.2⟩
      exact h _ _ _ w1 hO (HB.grown hg hbase (fun k hk => by cases hk; exact hb)) hg
    · have hr := run_append_grow (P := Try.prog) W 22 o.type 5 i (.int .u8 0) Try.underlying22 hi hz0 ⟨g, 0, none⟩ n c (nums .u8 xs) (by rw [hlx, hz1]) (numsRd HO.rd) ad m c' (nums .u8 ys) (by rw [hly, hz1]) hc (by omega) (by omega) (by rw [hz2]; have := capWide (show c < n + m by omega) hl; omega)
      exact fin _ _ hr (made c) (told _ _)
end
end Go.Proofs.Ytjhoidookoageaa.msgs
