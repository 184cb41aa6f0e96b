/- Words for slices of whole numbers that the call itself owns: append, read. -/
import Derived.Test.YtobkcedmjeidfaaDoorMem
set_option linter.unusedVariables false
set_option linter.unusedSimpArgs false
namespace Go.Proofs.YtobkcedmjeidfaaDoor.mem
open Go.RowKit Go.Proofs.YtobkcedmjeidfaaDoorW.PrintWords Go.Proofs.YtobkcedmjeidfaaDoor.base

theorem infoI : (Tryd.prog.info? 3).map (fun i => (i.zero, i.size, i.bytes)) = some (some (.int .i64 0), 1, 8) := by kernel_rfl
/-- the call's own slice of whole numbers, in blocks from base on -/
def OwI (w : World) (base : Nat) (A : Option Addr) (n c : Nat) (xs : List Int) : Prop := w.ownsRow base 3 1 (.slice A n c) n (nums .i64 xs)
section
variable {w w1 : World} {base n c : Nat} {A : Option Addr} {xs : List Int}
theorem OwI.len (h : OwI w base A n c xs) : xs.length = n := by have := h.1; simp [nums] at this; exact this
theorem OwI.rd (h : OwI w base A n c xs) : ReadsInt w .i64 A n xs := own_reads' h
theorem OwI.below (h : OwI w base A n c xs) (hb : Below w.heap.size w w1) : OwI w1 base A n c xs := pw_own_below h hb
theorem OwI.alloc (h : OwI w base A n c xs) (o : Obj) : OwI (w.alloc o) base A n c xs := own_alloc h o
theorem OwI.drawn (h : OwI w base A n c xs) (k : Nat) : OwI (w.drewN k) base A n c xs := pw_own_drewN h k
theorem OwI.less {b : Nat} (h : OwI w base A n c xs) (hb : b ≤ base) : OwI w b A n c xs := own_less h hb
theorem OwI.lit0 (w : World) (base : Nat) (hb : base ≤ w.heap.size) : OwI (w.alloc (.cells #[] 3)) base (some ⟨w.heap.size, 0, none⟩) 0 0 [] := own_lit w base 3 .i64 [] hb (by simp)
theorem OwI.nil (w : World) (base : Nat) : OwI w base none 0 0 [] := own_nil w base 3 1
theorem OwI.at_ (h : OwI w base A n c xs) (i : Nat) (h1 : i < n) : ∃ g, A = some ⟨g, 0, none⟩ ∧ w.cell? ⟨g, i, none⟩ = some (.int .i64 (xs.getD i 0)) := by
  obtain ⟨g, cap, hv, _, _⟩ := World.ownsRow.form h (by omega)
  injection hv with h2 h3 h4
  subst h2
  obtain ⟨ad, he, hc⟩ := h.rd.2.2 (by omega)
  injection he with he
  subst he
  have := hc i h1
  rw [add_plain] at this
  exact ⟨g, rfl, this⟩
end
section
variable {ops : Array Oper} {rest : List Oper} {o : Oper} {a : Act} {Q : Exit → Act → World → Prop}
/-- append of whole numbers: behind 'at_builtin' -/
theorem appI {w0 W : World} {base : Nat} (hgd : o.guard = none) (s x : Operand)
    (ho : o.op = .call { callee := .builtin .append, args := #[s, x], argTypes := #[59, 59] })
    {A : Option Addr} {n c : Nat} {xs : List Int} {A' : Option Addr} {m c' : Nat} {ys : List Int} (hs : a.eval s = .slice A n c) (hx : a.eval x = .slice A' m c')
    (HO : OwI W base A n c xs) (HR : ReadsInt W .i64 A' m ys) (HB : Below base w0 W) (hbase : base ≤ W.heap.size) (hl : (n + m) * 8 ≤ 140737488355328)
    (h : ∀ A1 n1 c1 w1, OwI w1 base A1 n1 c1 (xs ++ ys) → Below base w0 w1 → wpList Tryd.prog ops Q rest (a.put o.dst (.slice A1 n1 c1)) w1) : wpList Tryd.prog ops Q (o :: rest) a W := by
  refine print_append_row base hgd s x 59 3 .i64 8 ho Tryd.underlying59 infoI (by decide) (.slice A n c) xs ys A' m c' hs hx (by rw [HO.len]; exact HO) HR HB hbase (by rw [HO.len]; omega) ?_
  intro v1 w1 ho hb _ _
  obtain ⟨A1, c1, rfl⟩ := own_slice ho
  exact h A1 _ c1 w1 ho hb
end
end Go.Proofs.YtobkcedmjeidfaaDoor.mem
