/- Blocks in a band of the heap stay as they were. -/
import Derived.Test.YtjebmlfcdnpepaaDoorMem
set_option linter.unusedVariables false
set_option linter.unusedSimpArgs false
namespace Go.Proofs.YtjebmlfcdnpepaaDoor.keep
open Go.RowKit Go.Proofs.YtjebmlfcdnpepaaDoorW.PrintWords Go.Proofs.YtjebmlfcdnpepaaDoor.base Go.Proofs.YtjebmlfcdnpepaaDoor.mem

def Band (lo hi : Nat) (w w' : World) : Prop := hi ≤ w'.heap.size ∧ ∀ i, lo ≤ i → i < hi → w'.heap[i]? = w.heap[i]?
section
variable {lo hi : Nat} {w w1 w2 : World}
theorem Band.refl (h : hi ≤ w.heap.size) : Band lo hi w w := ⟨h, fun _ _ _ => rfl⟩
theorem Band.set (h : Band lo hi w w1) {g : Nat} (hg : g < lo ∨ hi ≤ g) (i : Nat) (v : Value) : Band lo hi w (w1.setCell ⟨g, i, none⟩ v) :=
  ⟨by simpa [World.setCell] using h.1, fun j h1 h2 => by rw [Below.heap_setCell _ _ _ _ (show j ≠ g by omega)]; exact h.2 j h1 h2⟩
theorem Band.below (h : Band lo hi w w1) (hb : Below w1.heap.size w1 w2) : Band lo hi w w2 :=
  ⟨Nat.le_trans h.1 hb.size, fun j h1 h2 => by rw [hb.block j (Nat.lt_of_lt_of_le h2 h.1)]; exact h.2 j h1 h2⟩
theorem Band.alloc (h : Band lo hi w w1) (o : Obj) : Band lo hi w (w1.alloc o) := h.below (below_alloc (Below.refl _ _) o)
theorem Band.drawn (h : Band lo hi w w1) (q : Nat) : Band lo hi w (w1.drewN q) := h.below (pw_below_drewN (Below.refl _ _) q)
theorem Band.grown (h : Band lo hi w w1) {ob : Option Nat} (hg : w1.grownBy w2 ob) (hb : ∀ j, ob = some j → j < lo ∨ hi ≤ j) : Band lo hi w w2 :=
  ⟨Nat.le_trans h.1 hg.size, fun j h1 h2 => by
    rw [hg.block j (Nat.lt_of_lt_of_le h2 h.1) (fun e => by have := hb j e.symm; omega)]; exact h.2 j h1 h2⟩
end
/-- a slice that lies in the band -/
def Lies (lo hi : Nat) (A : Option Addr) (n : Nat) : Prop := 0 < n → ∃ g, A = some ⟨g, 0, none⟩ ∧ lo ≤ g ∧ g < hi
theorem RdB.band {lo hi : Nat} {w w' : World} {A : Option Addr} {n : Nat} {xs : List Int} (h : RdB w A n xs) (hl : Lies lo hi A n) (hb : Band lo hi w w') : RdB w' A n xs := by
  refine ⟨⟨h.1.1, h.1.2.1, fun hn => ?_⟩, h.2⟩
  obtain ⟨g, rfl, h1, h2⟩ := hl hn
  obtain ⟨ad, ha, hc⟩ := h.1.2.2 hn
  cases ha
  refine ⟨_, rfl, fun j hj => ?_⟩
  rw [← hc j hj]
  have e : ((⟨g, 0, none⟩ : Addr).add j).block = g := by rw [add_plain]
  exact World.cell?_of_block (by rw [e]; exact hb.2 g h1 h2)
theorem OwB.lies {w : World} {base n c : Nat} {A : Option Addr} {xs : List Int} (h : OwB w base A n c xs) {lo hi : Nat} (hl : lo ≤ base) (hh : w.heap.size ≤ hi) : Lies lo hi A n := fun hn => by
  obtain ⟨g, e, h1, h2⟩ := h.form hn
  exact ⟨g, e, by omega, by omega⟩
theorem OwB.blk {w : World} {base n c : Nat} {A : Option Addr} {xs : List Int} (h : OwB w base A n c xs) : ∀ j, (Value.slice A n c).ownBlock = some j → base ≤ j ∧ j < w.heap.size := by
  intro j hj
  obtain ⟨_, h2⟩ := h.1
  rcases h2 with ⟨h3, _⟩ | ⟨g, cap, cur, hv, hb, hh, _⟩
  · injection h3 with h3; subst h3; simp [Value.ownBlock] at hj
  · injection hv with h3
    subst h3
    simp [Value.ownBlock] at hj
    subst hj
    exact ⟨hb, (Array.getElem?_eq_some_iff.1 hh).1⟩
/-- a store into one slice leaves one that lies further behind -/
theorem OwB.past {w : World} {base n c g : Nat} {A : Option Addr} {xs : List Int} (h : OwB w base A n c xs) (hg : g < base) (i : Nat) (v : Value) : OwB (w.setCell ⟨g, i, none⟩ v) base A n c xs := ⟨ownsRow_setCell_below h.1 hg v, h.2⟩
section
variable {ops : Array Oper} {rest : List Oper} {o : Oper} {a : Act} {Q : Exit → Act → World → Prop}
/-- append, told what it leaves: behind 'at_builtin' -/
theorem appG {w0 W : World} {base lo hi : Nat} (hgd : o.guard = none) (s x : Operand)
    (ho : o.op = .call { callee := .builtin .append, args := #[s, x], argTypes := #[22, 22] })
    {A : Option Addr} {n c : Nat} {xs : List Int} {A' : Option Addr} {m c' : Nat} {ys : List Int} (hs : a.eval s = .slice A n c) (hx : a.eval x = .slice A' m c')
    (HO : OwB W base A n c xs) (HR : RdB W A' m ys) (HB : Below base w0 W) (hbase : base ≤ W.heap.size) (hl : n + m ≤ 140737488355328)
    {wk : World} (HK : Band lo hi wk W) (hk : ∀ j, (Value.slice A n c).ownBlock = some j → j < lo ∨ hi ≤ j)
    (h : ∀ A1 n1 c1 w1, OwB w1 base A1 n1 c1 (xs ++ ys) → Below base w0 w1 → Band lo hi wk w1 → (∀ j, (Value.slice A1 n1 c1).ownBlock = some j → j < lo ∨ hi ≤ j) → wpList Tryd.prog ops Q rest (a.put o.dst (.slice A1 n1 c1)) w1) : wpList Tryd.prog ops Q (o :: rest) a W := by
  refine print_append_row base hgd s x 22 5 .u8 1 ho Tryd.underlying22 infoB (by decide) (.slice A n c) xs ys A' m c' hs hx (by rw [HO.len]; exact HO.1) HR.1 HB hbase (by rw [HO.len]; omega) ?_
  intro v1 w1 ho hb hg hob
  obtain ⟨A1, c1, rfl⟩ := own_slice ho
  refine h A1 _ c1 w1 ⟨ho, HO.2.append HR.2⟩ hb (HK.grown hg hk) (fun j hj => ?_)
  rcases hob with e | ⟨b, e, hbw⟩
  · exact hk j (e.symm.trans hj)
  · rw [e] at hj
    cases hj
    exact .inr (Nat.le_trans HK.1 hbw)
end
end Go.Proofs.YtjebmlfcdnpepaaDoor.keep
