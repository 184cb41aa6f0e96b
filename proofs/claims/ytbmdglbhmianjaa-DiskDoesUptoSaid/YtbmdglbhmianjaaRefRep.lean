/- The document's disk in memory. -/
import Derived.Test.YtbmdglbhmianjaaDiskRep
set_option linter.unusedVariables false
set_option linter.unusedSimpArgs false
namespace Go.Proofs.Ytbmdglbhmianjaa.refr
open Go.RowKit Go.Proofs.YtbmdglbhmianjaaW.PrintWords Go.Proofs.Ytbmdglbhmianjaa.base Go.Proofs.Ytbmdglbhmianjaa.mem Go.Proofs.Ytbmdglbhmianjaa.keep Go.Proofs.Ytbmdglbhmianjaa.diskp Go.Proofs.Ytbmdglbhmianjaa.diskr

/-- one's own slice, its capacity known or cut to its length -/
def OwF (w : World) (base : Nat) (x : Sl) (ys : List Int) : Prop := ∃ c2, OwB w base x.A x.n c2 ys ∧ (x.c = c2 ∨ x.c = x.n)
theorem OwF.blk {w : World} {base : Nat} {x : Sl} {ys : List Int} (h : OwF w base x ys) {g : Nat} (hg : x.own = some g) : base ≤ g ∧ g < w.heap.size := by
  obtain ⟨c2, h, _⟩ := h
  exact OwB.blk h g (own_same hg)
theorem OwF.keptN {w w' : World} {base : Nat} {x : Sl} {ys : List Int} (h : OwF w base x ys) {row : Option Nat} (hg : w.grownBy w' row) (hr : ∀ j, x.own = some j → row ≠ some j) : OwF w' base x ys := by
  obtain ⟨c2, h, e⟩ := h
  exact ⟨c2, OwB.keptN h hg (fun j hj => hr j (own_same hj)), e⟩
theorem OwF.block {w w' : World} {base : Nat} {x : Sl} {ys : List Int} (h : OwF w base x ys) (hb : ∀ g, x.own = some g → w'.heap[g]? = w.heap[g]?) : OwF w' base x ys := by
  obtain ⟨c2, h, e⟩ := h
  exact ⟨c2, OwS.block (x := ⟨x.A, x.n, c2⟩) h (fun g hg => hb g (own_same hg)), e⟩
theorem OwF.less {w : World} {base b : Nat} {x : Sl} {ys : List Int} (h : OwF w base x ys) (hb : b ≤ base) : OwF w b x ys := by
  obtain ⟨c2, h, e⟩ := h
  exact ⟨c2, OwB.less h hb, e⟩
theorem OwF.rd {w : World} {base : Nat} {x : Sl} {ys : List Int} (h : OwF w base x ys) : RdB w x.A x.n ys := by
  obtain ⟨c2, h, e⟩ := h
  exact h.rd
theorem OwF.len {w : World} {base : Nat} {x : Sl} {ys : List Int} (h : OwF w base x ys) : ys.length = x.n := by
  obtain ⟨c2, h, e⟩ := h
  exact h.len
theorem OwF.cap {w : World} {base : Nat} {x : Sl} {ys : List Int} (h : OwF w base x ys) : x.n ≤ x.c := by
  obtain ⟨c2, h, e⟩ := h
  have := h.cap
  omega
theorem OwF.of {w : World} {base n c : Nat} {A : Option Addr} {ys : List Int} (h : OwB w base A n c ys) : OwF w base ⟨A, n, c⟩ ys := ⟨c, h, .inl rfl⟩
/-- the cell of a slot -/
def pos (i : Nat) : Nat := if i = 1 then 2 else if i = 2 then 1 else i
def rcells (cs : Nat → Sl) (d : D) : Array Value := #[(cs 0).val, (cs 2).val, (cs 1).val, (cs 3).val, .bool (!d.off), .int .i64 d.n, .int .i64 d.a, .int .i64 d.k]
/-- the document's disk in block p -/
structure RAt (w : World) (base p : Nat) (cs : Nat → Sl) (d : D) : Prop where
  box : w.heap[p]? = some (.cells (rcells cs d) 51 (0, 0))
  hp : base ≤ p
  row : ∀ i, i < 4 → OwF w base (cs i) (d.b i)
  np : ∀ i, i < 4 → (cs i).own ≠ some p
  ap : ∀ i j g, i < 4 → j < 4 → (cs i).own = some g → (cs j).own = some g → i = j
section
variable {w w1 w2 : World} {base p : Nat} {cs cs1 cs2 : Nat → Sl} {d : D}
theorem RAt.plt (h : RAt w base p cs d) : p < w.heap.size := (Array.getElem?_eq_some_iff.1 h.box).1
theorem RAt.base_le (h : RAt w base p cs d) : base ≤ w.heap.size := Nat.le_trans h.hp (Nat.le_of_lt h.plt)
theorem RAt.ft (h : RAt w base p cs d) {g : Nat} (hg : Ft p cs g) : base ≤ g ∧ g < w.heap.size := by
  rcases hg with rfl | ⟨i, hi, hg⟩
  · exact ⟨h.hp, h.plt⟩
  · exact (h.row i hi).blk hg
theorem RAt.blocks (h : RAt w base p cs d) (hb : ∀ g, Ft p cs g → w1.heap[g]? = w.heap[g]?) : RAt w1 base p cs d :=
  ⟨by rw [hb p (.inl rfl)]; exact h.box, h.hp, fun i hi => (h.row i hi).block fun g hg => hb g (.inr ⟨i, hi, hg⟩), h.np, h.ap⟩
theorem RAt.below (h : RAt w base p cs d) (hb : Below w.heap.size w w1) : RAt w1 base p cs d := h.blocks fun g hg => hb.block g (h.ft hg).2
theorem RAt.kept {Q : Nat → Prop} (h : RAt w base p cs d) (hk : Kp Q w w1) (hq : ∀ g, Ft p cs g → Q g) : RAt w1 base p cs d := h.blocks fun g hg => hk.2 g (hq g hg) (h.ft hg).2
theorem RAt.less {b : Nat} (h : RAt w base p cs d) (hb : b ≤ base) : RAt w b p cs d := ⟨h.box, Nat.le_trans hb h.hp, fun i hi => OwF.less (h.row i hi) hb, h.np, h.ap⟩
theorem RAt.cell (h : RAt w base p cs d) (i : Nat) (v : Value) (hv : (rcells cs d)[i]? = some v) : w.cell? ⟨p, i, none⟩ = some v := by
  have hb := h.box
  unfold World.cell?
  rw [hb]
  exact hv
theorem RAt.free (h : RAt w base p cs d) (i : Nat) : w.frozen? ⟨p, i, none⟩ = false := by
  have hb := h.box
  unfold World.frozen?
  rw [hb]
  simp
theorem RAt.cells (h : RAt w base p cs d) : w.cell? ⟨p, 0, none⟩ = some (.slice (cs 0).A (cs 0).n (cs 0).c) ∧ w.cell? ⟨p, 2, none⟩ = some (.slice (cs 1).A (cs 1).n (cs 1).c) ∧ w.cell? ⟨p, 1, none⟩ = some (.slice (cs 2).A (cs 2).n (cs 2).c) ∧ w.cell? ⟨p, 3, none⟩ = some (.slice (cs 3).A (cs 3).n (cs 3).c) ∧ w.cell? ⟨p, 4, none⟩ = some (.bool (!d.off)) ∧ w.cell? ⟨p, 5, none⟩ = some (.int .i64 d.n) ∧ w.cell? ⟨p, 6, none⟩ = some (.int .i64 d.a) ∧ w.cell? ⟨p, 7, none⟩ = some (.int .i64 d.k) :=
  ⟨h.cell 0 _ rfl, h.cell 2 _ rfl, h.cell 1 _ rfl, h.cell 3 _ rfl, h.cell 4 _ rfl, h.cell 5 _ rfl, h.cell 6 _ rfl, h.cell 7 _ rfl⟩
theorem RAt.frees (h : RAt w base p cs d) : w.frozen? ⟨p, 0, none⟩ = false ∧ w.frozen? ⟨p, 1, none⟩ = false ∧ w.frozen? ⟨p, 2, none⟩ = false ∧ w.frozen? ⟨p, 3, none⟩ = false ∧ w.frozen? ⟨p, 4, none⟩ = false ∧ w.frozen? ⟨p, 5, none⟩ = false ∧ w.frozen? ⟨p, 6, none⟩ = false ∧ w.frozen? ⟨p, 7, none⟩ = false :=
  ⟨h.free 0, h.free 1, h.free 2, h.free 3, h.free 4, h.free 5, h.free 6, h.free 7⟩
/-- a store into a box of the disk -/
theorem rset_box (h : RAt w base p cs d) (i : Nat) (v : Value) : (w.setCell ⟨p, i, none⟩ v).heap[p]? = some (.cells ((rcells cs d).setIfInBounds i v) 51 (0, 0)) := by
  simp [World.setCell, h.box, Array.getElem?_modify]
theorem RAt.scal (h : RAt w base p cs d) (i : Nat) (v : Value) {d' : D} (hb : d'.b = d.b) (hc : (rcells cs d).setIfInBounds i v = rcells cs d') : RAt (w.setCell ⟨p, i, none⟩ v) base p cs d' := by
  refine ⟨by rw [rset_box h, hc], h.hp, fun j hj => ?_, h.np, h.ap⟩
  rw [hb]
  exact (h.row j hj).block fun g hg => Below.heap_setCell _ _ _ _ (fun e => h.np j hj (by rw [hg]; exact congrArg some e))
theorem rstep_store (h : RAt w base p cs d) (i : Nat) (v : Value) : DStep w base p cs (w.setCell ⟨p, i, none⟩ v) cs :=
  ⟨⟨by simp [World.setCell], fun g hg _ => Below.heap_setCell _ _ _ _ (fun e => hg (.inl e))⟩, fun _ hg => .inl hg, (Below.refl _ _).setCell (p := ⟨p, i, none⟩) h.hp _⟩
/-- a slot of the disk is written: what was appended to, cut, or nothing -/
theorem RAt.slot (h : RAt w base p cs d) {i : Nat} (hi : i < 4) {x : Sl} {ys : List Int} (hg : w.grownBy w1 (cs i).own) (hx : OwF w1 base x ys) (ho : ∀ g, x.own = some g → (cs i).own = some g ∨ w.heap.size ≤ g) :
    RAt (w1.setCell ⟨p, pos i, none⟩ x.val) base p (upd cs i x) (putB d i ys) ∧ DStep w base p cs (w1.setCell ⟨p, pos i, none⟩ x.val) (upd cs i x) := by
  have hp1 : w1.heap[p]? = w.heap[p]? := hg.block p h.plt (fun e => h.np i hi e.symm)
  have hxp : x.own ≠ some p := fun e => (ho p e).elim (h.np i hi) (fun e => by have := h.plt; omega)
  have hs := hg.size
  have hown : ∀ j, (upd cs i x j).own = some p → j < 4 → False := fun j e hj => by
    by_cases hji : j = i
    · subst hji; rw [upd_same] at e; exact hxp e
    · rw [upd_ne _ _ hji] at e; exact h.np j hj e
  refine ⟨⟨?_, h.hp, fun j hj => ?_, fun j hj e => hown j e hj, fun j k g hj hk e1 e2 => ?_⟩, ⟨⟨by simpa [World.setCell] using hs, fun g a b => ?_⟩, fun g hg' => ?_, ?_⟩⟩
  · have hb := h.box
    rw [← hp1] at hb
    have : (w1.setCell ⟨p, pos i, none⟩ x.val).heap[p]? = some (.cells ((rcells cs d).setIfInBounds (pos i) x.val) 51 (0, 0)) := by simp [World.setCell, hb, Array.getElem?_modify]
    rw [this]
    congr 2
    match i, hi with
    | 0, _ => rfl
    | 1, _ => rfl
    | 2, _ => rfl
    | 3, _ => rfl
  · by_cases hji : j = i
    · subst hji
      show OwF _ base (upd cs j x j) (upd d.b j ys j)
      rw [upd_same, upd_same]
      exact hx.block fun g e => Below.heap_setCell _ _ _ _ (fun e2 => hxp (by rw [e]; exact congrArg some e2))
    · show OwF _ base (upd cs i x j) (upd d.b i ys j)
      rw [upd_ne _ _ hji, upd_ne _ _ hji]
      have h1 := (h.row j hj).keptN hg fun g e e2 => hji (h.ap j i g hj hi e e2)
      exact h1.block fun g e => Below.heap_setCell _ _ _ _ (fun e2 => h.np j hj (by rw [e]; exact congrArg some e2))
  · by_cases hji : j = i <;> by_cases hki : k = i
    · omega
    · subst hji
      rw [upd_same] at e1
      rw [upd_ne _ _ hki] at e2
      rcases ho g e1 with e | e
      · exact h.ap j k g hj hk e e2
      · have := ((h.row k hk).blk e2).2
        omega
    · subst hki
      rw [upd_same] at e2
      rw [upd_ne _ _ hji] at e1
      rcases ho g e2 with e | e
      · exact h.ap j k g hj hk e1 e
      · have := ((h.row j hj).blk e1).2
        omega
    · rw [upd_ne _ _ hji] at e1
      rw [upd_ne _ _ hki] at e2
      exact h.ap j k g hj hk e1 e2
  · rw [Below.heap_setCell _ _ _ _ (show g ≠ p from fun e => a (.inl e))]
    exact hg.block g b (fun e => a (.inr ⟨i, hi, e.symm⟩))
  · rcases hg' with e | ⟨j, hj, e⟩
    · exact .inl (.inl e)
    · by_cases hji : j = i
      · subst hji
        rw [upd_same] at e
        exact (ho g e).elim (fun e => .inl (.inr ⟨j, hj, e⟩)) .inr
      · rw [upd_ne _ _ hji] at e
        exact .inl (.inr ⟨j, hj, e⟩)
  · exact ((Below.refl base w).grown hg h.base_le (fun k e => ((h.row i hi).blk e).1)).setCell (p := ⟨p, pos i, none⟩) h.hp _
/-- a slot is given what lies in no block of the disk -/
theorem RAt.slotF (h : RAt w base p cs d) {i : Nat} (hi : i < 4) {x : Sl} {ys : List Int} (hx : OwF w base x ys) (ho : ∀ g, x.own = some g → ¬ Ft p cs g) :
    RAt (w.setCell ⟨p, pos i, none⟩ x.val) base p (upd cs i x) (putB d i ys) := by
  have hxp : x.own ≠ some p := fun e => ho p e (.inl rfl)
  refine ⟨?_, h.hp, fun j hj => ?_, fun j hj e => ?_, fun j k g hj hk e1 e2 => ?_⟩
  · rw [rset_box h]
    congr 2
    match i, hi with
    | 0, _ => rfl
    | 1, _ => rfl
    | 2, _ => rfl
    | 3, _ => rfl
  · by_cases hji : j = i
    · subst hji
      show OwF _ base (upd cs j x j) (upd d.b j ys j)
      rw [upd_same, upd_same]
      exact hx.block fun g e => Below.heap_setCell _ _ _ _ (fun e2 => hxp (by rw [e]; exact congrArg some e2))
    · show OwF _ base (upd cs i x j) (upd d.b i ys j)
      rw [upd_ne _ _ hji, upd_ne _ _ hji]
      exact (h.row j hj).block fun g e => Below.heap_setCell _ _ _ _ (fun e2 => h.np j hj (by rw [e]; exact congrArg some e2))
  · by_cases hji : j = i
    · subst hji; rw [upd_same] at e; exact hxp e
    · rw [upd_ne _ _ hji] at e; exact h.np j hj e
  · by_cases hji : j = i <;> by_cases hki : k = i
    · omega
    · subst hji
      rw [upd_same] at e1
      rw [upd_ne _ _ hki] at e2
      exact absurd (.inr ⟨k, hk, e2⟩) (ho g e1)
    · subst hki
      rw [upd_same] at e2
      rw [upd_ne _ _ hji] at e1
      exact absurd (.inr ⟨j, hj, e1⟩) (ho g e2)
    · rw [upd_ne _ _ hji] at e1
      rw [upd_ne _ _ hki] at e2
      exact h.ap j k g hj hk e1 e2

/-- a slot is given new memory -/
theorem RAt.slotN (h : RAt w base p cs d) (hb : Below w.heap.size w w1) {i : Nat} (hi : i < 4) {x : Sl} {ys : List Int} (hx : OwF w1 w.heap.size x ys) :
    RAt (w1.setCell ⟨p, pos i, none⟩ x.val) base p (upd cs i x) (putB d i ys) ∧ DStep w base p cs (w1.setCell ⟨p, pos i, none⟩ x.val) (upd cs i x) := by
  have h1 := h.below hb
  have hn : ∀ g, x.own = some g → ¬ Ft p cs g := fun g hg hf => by
    have a := (hx.blk hg).1
    have b := (h.ft hf).2
    omega
  refine ⟨h1.slotF hi (hx.less h.base_le) hn, ?_⟩
  refine ⟨⟨by simpa [World.setCell] using hb.size, fun g hg hl => ?_⟩, fun g hg => ?_, (hb.mono h.base_le).setCell (p := ⟨p, pos i, none⟩) h.hp _⟩
  · rw [Below.heap_setCell _ _ _ _ (show g ≠ p from fun e => hg (.inl e))]
    exact hb.block g hl
  · rcases hg with e | ⟨j, hj, e⟩
    · exact .inl (.inl e)
    · by_cases hji : j = i
      · subst hji
        rw [upd_same] at e
        exact .inr (hx.blk e).1
      · rw [upd_ne _ _ hji] at e
        exact .inl (.inr ⟨j, hj, e⟩)
end
def RPost (w : World) (base p : Nat) (cs : Nat → Sl) (d' : D) (w' : World) : Prop := ∃ cs', RAt w' base p cs' d' ∧ DStep w base p cs w' cs'
def RetF (w : World) (base p : Nat) (cs : Nat → Sl) (r : Value) (d' : D) (e : Ending) (w' : World) : Prop := e = .returned r ∧ RPost w base p cs d' w'
theorem RetF.from {w w1 w' : World} {base p : Nat} {cs cs1 : Nat → Sl} {r : Value} {d' : D} {e : Ending} (s : DStep w base p cs w1 cs1) (h : RetF w1 base p cs1 r d' e w') : RetF w base p cs r d' e w' := by
  obtain ⟨he, cs', h1, h2⟩ := h
  exact ⟨he, cs', h1, s.trans h2⟩
theorem RAt.drewd {w : World} {base p : Nat} {cs : Nat → Sl} {d : D} (h : RAt w base p cs d) : RAt w.drew base p cs d := h.below (Below.refl _ _).drew
end Go.Proofs.Ytbmdglbhmianjaa.refr
