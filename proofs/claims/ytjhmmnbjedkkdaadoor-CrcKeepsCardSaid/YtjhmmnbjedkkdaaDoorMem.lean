/- Words for slices of bytes that the call itself owns: append, store, read. -/
import Derived.Test.YtjhmmnbjedkkdaaDoorBase
import Derived.WalkSpells
set_option linter.unusedVariables false
set_option linter.unusedSimpArgs false
namespace Go.Proofs.YtjhmmnbjedkkdaaDoor.mem
open Go.RowKit Go.Proofs.YtjhmmnbjedkkdaaDoorW.PrintWords Go.Proofs.YtjhmmnbjedkkdaaDoor.base

theorem infoB : (Tryd.prog.info? 5).map (fun i => (i.zero, i.size, i.bytes)) = some (some (.int .u8 0), 1, 1) := by kernel_rfl

/-- the call's own slice of bytes, in blocks from base on -/
def OwB (w : World) (base : Nat) (A : Option Addr) (n c : Nat) (xs : List Int) : Prop := w.ownsRow base 5 1 (.slice A n c) n (nums .u8 xs) ∧ By xs
section
variable {w w1 : World} {base n c : Nat} {A : Option Addr} {xs : List Int}
theorem OwB.len (h : OwB w base A n c xs) : xs.length = n := by have := h.1.1; simp [nums] at this; exact this
theorem OwB.rd (h : OwB w base A n c xs) : RdB w A n xs := ⟨own_reads' h.1, h.2⟩
theorem OwB.below (h : OwB w base A n c xs) (hb : Below w.heap.size w w1) : OwB w1 base A n c xs := ⟨pw_own_below h.1 hb, h.2⟩
theorem OwB.alloc (h : OwB w base A n c xs) (o : Obj) : OwB (w.alloc o) base A n c xs := ⟨own_alloc h.1 o, h.2⟩
theorem OwB.drawn (h : OwB w base A n c xs) (k : Nat) : OwB (w.drewN k) base A n c xs := ⟨pw_own_drewN h.1 k, h.2⟩
theorem OwB.less {b : Nat} (h : OwB w base A n c xs) (hb : b ≤ base) : OwB w b A n c xs := ⟨own_less h.1 hb, h.2⟩
theorem OwB.lit0 (w : World) (base : Nat) (hb : base ≤ w.heap.size) : OwB (w.alloc (.cells #[] 5)) base (some ⟨w.heap.size, 0, none⟩) 0 0 [] := ⟨own_lit w base 5 .u8 [] hb (by simp), By_of _ (by simp)⟩
theorem OwB.nil (w : World) (base : Nat) : OwB w base none 0 0 [] := ⟨own_nil w base 5 1, By_of _ (by simp)⟩
theorem OwB.cap (h : OwB w base A n c xs) : n ≤ c := by
  rcases h.1.2 with ⟨h1, _⟩ | ⟨g, cap, cur, hv, _, _, h1, h2, _⟩
  · injection h1 with _ h2 h3; omega
  · injection hv with _ _ h3; omega
theorem OwB.form (h : OwB w base A n c xs) (hn : 0 < n) : ∃ g, A = some ⟨g, 0, none⟩ ∧ base ≤ g ∧ g < w.heap.size := by
  obtain ⟨g, cap, hv, hgb, hgl⟩ := h.1.form hn
  injection hv with h1 h2 h3
  exact ⟨g, h1, hgb, hgl⟩
theorem OwB.at_ {g : Nat} (h : OwB w base (some ⟨g, 0, none⟩) n c xs) (i : Nat) (h1 : i < n) : w.cell? ⟨g, i, none⟩ = some (.int .u8 (xs.getD i 0)) ∧ w.frozen? ⟨g, i, none⟩ = false := by
  have := own_at h.1 i (by omega) (by omega)
  rw [show ((i : Int)).toNat = i from by omega] at this
  exact this
theorem OwB.store {g : Nat} (h : OwB w base (some ⟨g, 0, none⟩) n c xs) (i : Nat) (x : Int) (hx : 0 ≤ x ∧ x ≤ 255) : OwB (w.setCell ⟨g, i, none⟩ (.int .u8 x)) base (some ⟨g, 0, none⟩) n c (xs.set i x) := by
  refine ⟨(own_store h.1 i x).1, By_of _ fun y hy => ?_⟩
  rcases List.mem_or_eq_of_mem_set hy with h1 | h1
  · exact h.2.mem y h1
  · rw [h1]; exact hx
end
/-- bytes of a literal that is handed on: 'append(v, 7)', 'append(v, 1, 2, 3)' -/
theorem litB (w : World) (fr : Nat × Nat) (xs : List Int) (h : xs.length ≤ 9223372036854775807) (hb : By xs) : RdB (w.alloc (.cells (nums .u8 xs).toArray 5 fr)) (some ⟨w.heap.size, 0, none⟩) xs.length xs := ⟨lit_reads w _ fr xs h, hb⟩

section
variable {ops : Array Oper} {rest : List Oper} {o : Oper} {a : Act} {Q : Exit → Act → World → Prop}
/-- append: behind 'at_builtin' -/
theorem app {w0 W : World} {base : Nat} (hgd : o.guard = none) (s x : Operand)
    (ho : o.op = .call { callee := .builtin .append, args := #[s, x], argTypes := #[23, 23] })
    {A : Option Addr} {n c : Nat} {xs : List Int} {A' : Option Addr} {m c' : Nat} {ys : List Int} (hs : a.eval s = .slice A n c) (hx : a.eval x = .slice A' m c')
    (HO : OwB W base A n c xs) (HR : RdB W A' m ys) (HB : Below base w0 W) (hbase : base ≤ W.heap.size) (hl : n + m ≤ 140737488355328)
    (h : ∀ A1 n1 c1 w1, OwB w1 base A1 n1 c1 (xs ++ ys) → Below base w0 w1 → wpList Tryd.prog ops Q rest (a.put o.dst (.slice A1 n1 c1)) w1) : wpList Tryd.prog ops Q (o :: rest) a W := by
  refine print_append_row base hgd s x 23 5 .u8 1 ho Tryd.underlying23 infoB (by decide) (.slice A n c) xs ys A' m c' hs hx (by rw [HO.len]; exact HO.1) HR.1 HB hbase (by rw [HO.len]; omega) ?_
  intro v1 w1 ho hb _ _
  obtain ⟨A1, c1, rfl⟩ := own_slice ho
  exact h A1 _ c1 w1 ⟨ho, HO.2.append HR.2⟩ hb
end
/-- string(b) -/
theorem str {w : World} {A : Option Addr} {n : Nat} {xs : List Int} (h : RdB w A n xs) (q c : Nat) : (convert 23 9 (.slice A n c)).run Tryd.prog (w.drewN q) = .ok (.string (strOfNums xs)) (w.drewN q) :=
  string_of_reads Tryd.underlying23 Tryd.underlying5 Tryd.underlying9 (h.drawn q).1
end Go.Proofs.YtjhmmnbjedkkdaaDoor.mem
