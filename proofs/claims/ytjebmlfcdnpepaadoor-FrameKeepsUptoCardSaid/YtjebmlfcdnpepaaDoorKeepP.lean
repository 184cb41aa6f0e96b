/- Blocks of a set stay as they were; appends told of by what they turn. -/
import Derived.Test.YtjebmlfcdnpepaaDoorKeep
set_option linter.unusedVariables false
set_option linter.unusedSimpArgs false
namespace Go.Proofs.YtjebmlfcdnpepaaDoor.keep
open Go.RowKit Go.Proofs.YtjebmlfcdnpepaaDoorW.PrintWords Go.Proofs.YtjebmlfcdnpepaaDoor.base Go.Proofs.YtjebmlfcdnpepaaDoor.mem

/-- the blocks of a set read as before -/
def Kp (P : Nat → Prop) (w w' : World) : Prop := w.heap.size ≤ w'.heap.size ∧ ∀ i, P i → i < w.heap.size → w'.heap[i]? = w.heap[i]?
section
variable {P : Nat → Prop} {w w1 w2 : World}
theorem Kp.refl (w : World) : Kp P w w := ⟨Nat.le_refl _, fun _ _ _ => rfl⟩
theorem Kp.set (h : Kp P w w1) {g : Nat} (hg : ¬ P g) (i : Nat) (v : Value) : Kp P w (w1.setCell ⟨g, i, none⟩ v) :=
  ⟨by simpa [World.setCell] using h.1, fun j h1 h2 => by
    rw [Below.heap_setCell _ _ _ _ (show j ≠ g from fun e => hg (e ▸ h1))]; exact h.2 j h1 h2⟩
theorem Kp.below (h : Kp P w w1) (hb : Below w1.heap.size w1 w2) : Kp P w w2 :=
  ⟨Nat.le_trans h.1 hb.size, fun j h1 h2 => by rw [hb.block j (Nat.lt_of_lt_of_le h2 h.1)]; exact h.2 j h1 h2⟩
theorem Kp.alloc (h : Kp P w w1) (o : Obj) : Kp P w (w1.alloc o) := h.below (below_alloc (Below.refl _ _) o)
theorem Kp.drawn (h : Kp P w w1) (q : Nat) : Kp P w (w1.drewN q) := h.below (pw_below_drewN (Below.refl _ _) q)
theorem Kp.grown (h : Kp P w w1) {row : Option Nat} (hg : w1.grownBy w2 row) (hb : ∀ j, row = some j → ¬ (P j ∧ j < w.heap.size)) : Kp P w w2 :=
  ⟨Nat.le_trans h.1 hg.size, fun j h1 h2 => by
    rw [hg.block j (Nat.lt_of_lt_of_le h2 h.1) (fun e => hb j e.symm ⟨h1, h2⟩)]; exact h.2 j h1 h2⟩
theorem Kp.mono {Q : Nat → Prop} (h : Kp P w w1) (hq : ∀ i, i < w.heap.size → Q i → P i) : Kp Q w w1 := ⟨h.1, fun i a b => h.2 i (hq i b a) b⟩
end
/-- a slice that lies in blocks of the set -/
def LiesP (P : Nat → Prop) (k : Nat) (A : Option Addr) (n : Nat) : Prop := 0 < n → ∃ g, A = some ⟨g, 0, none⟩ ∧ P g ∧ g < k
theorem RdB.kp {P : Nat → Prop} {w w' : World} {A : Option Addr} {n : Nat} {xs : List Int} (h : RdB w A n xs) (hl : LiesP P w.heap.size A n) (hb : Kp P w w') : RdB w' A n xs := by
  refine ⟨⟨h.1.1, h.1.2.1, fun hn => ?_⟩, h.2⟩
  obtain ⟨g, rfl, h1, h2⟩ := hl hn
  obtain ⟨ad, ha, hc⟩ := h.1.2.2 hn
  cases ha
  refine ⟨_, rfl, fun j hj => ?_⟩
  rw [← hc j hj]
  have e : ((⟨g, 0, none⟩ : Addr).add j).block = g := by rw [add_plain]
  exact World.cell?_of_block (by rw [e]; exact hb.2 g h1 h2)
theorem OwB.liesP {P : Nat → Prop} {w : World} {base n c : Nat} {A : Option Addr} {xs : List Int} (h : OwB w base A n c xs) (hp : ∀ j, base ≤ j → j < w.heap.size → P j) {k : Nat} (hk : w.heap.size ≤ k) : LiesP P k A n := fun hn => by
  obtain ⟨g, e, h1, h2⟩ := h.form hn
  exact ⟨g, e, hp g h1 h2, Nat.lt_of_lt_of_le h2 hk⟩
/-- what turns another block leaves a slice of one's own -/
theorem OwB.keptN {w w' : World} {base n c : Nat} {A : Option Addr} {ys : List Int} (h : OwB w base A n c ys) {row : Option Nat} (hg : w.grownBy w' row) (hr : ∀ j, (Value.slice A n c).ownBlock = some j → row ≠ some j) : OwB w' base A n c ys := by
  refine ⟨h.1.kept hg ?_, h.2⟩
  rcases h.1.2 with ⟨hv, _⟩ | ⟨g, cap, cur, hv, _, hb, _, _, _⟩
  · injection hv with h1 _ _
    subst h1
    exact .inl rfl
  · refine .inr fun e => ?_
    have hv2 : (Value.slice A n c).ownBlock = some g := by rw [hv]; rfl
    exact hr g hv2 (e.symm.trans hv2)
theorem grownBy_set (W : World) (b i : Nat) (v : Value) : W.grownBy (W.setCell ⟨b, i, none⟩ v) (some b) :=
  ⟨rfl, rfl, rfl, by simp [World.setCell], fun k _ hk => Below.heap_setCell _ _ _ k (fun e => hk (by rw [e]))⟩
theorem OwB.set_other {w : World} {base n c g : Nat} {A : Option Addr} {ys : List Int} (h : OwB w base A n c ys) (hr : ∀ j, (Value.slice A n c).ownBlock = some j → j ≠ g) (i : Nat) (v : Value) : OwB (w.setCell ⟨g, i, none⟩ v) base A n c ys :=
  OwB.keptN h (grownBy_set w g i v) fun j hj e => hr j hj (Option.some.inj e).symm
section
variable {ops : Array Oper} {rest : List Oper} {o : Oper} {a : Act} {Q : Exit → Act → World → Prop}
/-- append, told of by what it turns: behind 'at_builtin' -/
theorem appH {w0 W : World} {base : Nat} (hgd : o.guard = none) (s x : Operand)
    (ho : o.op = .call { callee := .builtin .append, args := #[s, x], argTypes := #[22, 22] })
    {A : Option Addr} {n c : Nat} {xs : List Int} {A' : Option Addr} {m c' : Nat} {ys : List Int} (hs : a.eval s = .slice A n c) (hx : a.eval x = .slice A' m c')
    (HO : OwB W base A n c xs) (HR : RdB W A' m ys) (HB : Below base w0 W) (hbase : base ≤ W.heap.size) (hl : n + m ≤ 140737488355328)
    (h : ∀ A1 n1 c1 w1, OwB w1 base A1 n1 c1 (xs ++ ys) → Below base w0 w1 → W.grownBy w1 (Value.slice A n c).ownBlock → (∀ j, (Value.slice A1 n1 c1).ownBlock = some j → (Value.slice A n c).ownBlock = some j ∨ W.heap.size ≤ j) → wpList Tryd.prog ops Q rest (a.put o.dst (.slice A1 n1 c1)) w1) : wpList Tryd.prog ops Q (o :: rest) a W := by
  refine print_append_row base hgd s x 22 5 .u8 1 ho Tryd.underlying22 infoB (by decide) (.slice A n c) xs ys A' m c' hs hx (by rw [HO.len]; exact HO.1) HR.1 HB hbase (by rw [HO.len]; omega) ?_
  intro v1 w1 ho hb hg hob
  obtain ⟨A1, c1, rfl⟩ := own_slice ho
  refine h A1 _ c1 w1 ⟨ho, HO.2.append HR.2⟩ hb hg (fun j hj => ?_)
  rcases hob with e | ⟨b, e, hbw⟩
  · exact .inl (e.symm.trans hj)
  · rw [e] at hj
    cases hj
    exact .inr hbw
end
end Go.Proofs.YtjebmlfcdnpepaaDoor.keep
