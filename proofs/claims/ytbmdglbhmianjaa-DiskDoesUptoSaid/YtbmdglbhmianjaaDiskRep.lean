/- A disk in memory. -/
import Derived.Test.YtbmdglbhmianjaaDiskPure
import Derived.Test.YtbmdglbhmianjaaKeepP
import Derived.Test.YtbmdglbhmianjaaStepApp
set_option linter.unusedVariables false
set_option linter.unusedSimpArgs false
namespace Go.Proofs.Ytbmdglbhmianjaa.diskr
open Go.RowKit Go.Proofs.YtbmdglbhmianjaaW.PrintWords Go.Proofs.Ytbmdglbhmianjaa.base Go.Proofs.Ytbmdglbhmianjaa.mem Go.Proofs.Ytbmdglbhmianjaa.keep Go.Proofs.Ytbmdglbhmianjaa.diskp

/-- a slice's header -/
structure Sl where
  A : Option Addr
  n : Nat
  c : Nat
def Sl.val (x : Sl) : Value := .slice x.A x.n x.c
def Sl.own (x : Sl) : Option Nat := (Value.slice x.A x.n x.c).ownBlock
def nilS : Sl := ⟨none, 0, 0⟩
theorem nilS_own : nilS.own = none := rfl
def OwS (w : World) (base : Nat) (x : Sl) (ys : List Int) : Prop := OwB w base x.A x.n x.c ys
theorem OwS.blk {w : World} {base : Nat} {x : Sl} {ys : List Int} (h : OwS w base x ys) {g : Nat} (hg : x.own = some g) : base ≤ g ∧ g < w.heap.size := OwB.blk h g hg
theorem OwS.keptN {w w' : World} {base : Nat} {x : Sl} {ys : List Int} (h : OwS w base x ys) {row : Option Nat} (hg : w.grownBy w' row) (hr : ∀ j, x.own = some j → row ≠ some j) : OwS w' base x ys := OwB.keptN h hg hr
theorem OwS.block {w w' : World} {base : Nat} {x : Sl} {ys : List Int} (h : OwS w base x ys) (hb : ∀ g, x.own = some g → w'.heap[g]? = w.heap[g]?) : OwS w' base x ys := by
  obtain ⟨A, n, c⟩ := x
  refine ⟨⟨h.1.1, ?_⟩, h.2⟩
  rcases h.1.2 with hv | ⟨g, cap, cur, hv, h1, h2, h3⟩
  · exact .inl hv
  · refine .inr ⟨g, cap, cur, hv, h1, ?_, h3⟩
    rw [hb g (by show (Value.slice A n c).ownBlock = some g; rw [hv]; rfl)]
    exact h2
/-- the first k of a slice of one's own -/
theorem OwB.first {w : World} {base n c : Nat} {A : Option Addr} {ys : List Int} (h : OwB w base A n c ys) (k : Nat) (hk : k ≤ n) : OwB w base A k c (ys.take k) := by
  refine ⟨⟨?_, ?_⟩, h.2.take k⟩
  · have := h.len
    simp [nums]; omega
  · rcases h.1.2 with ⟨hv, h0⟩ | ⟨g, cap, cur, hv, h1, h2, h3, h4, h5, h6⟩
    · injection hv with e1 e2 e3
      subst e1 e2 e3
      obtain rfl : k = 0 := by omega
      exact .inl ⟨rfl, rfl⟩
    · injection hv with e1 e2 e3
      subst e1 e3
      refine .inr ⟨g, c, cur, rfl, h1, h2, by omega, h4, h5, ?_⟩
      have : nums .u8 (ys.take k) = (nums .u8 ys).take k := by simp [nums, List.map_take]
      rw [this, ← h6, List.take_take]
      congr 1
      omega
def dcells (cs : Nat → Sl) (d : D) : Array Value := #[(cs 0).val, (cs 1).val, (cs 2).val, (cs 3).val, .bool d.off, .int .i64 d.n, .int .i64 d.a, .int .i64 d.k]
/-- a disk of the call's own in block p -/
structure DAt (w : World) (base p : Nat) (cs : Nat → Sl) (d : D) : Prop where
  box : w.heap[p]? = some (.cells (dcells cs d) 57 (0, 0))
  hp : base ≤ p
  row : ∀ i, i < 4 → OwS w base (cs i) (d.b i)
  np : ∀ i, i < 4 → (cs i).own ≠ some p
  ap : ∀ i j g, i < 4 → j < 4 → (cs i).own = some g → (cs j).own = some g → i = j
/-- the blocks of a disk -/
def Ft (p : Nat) (cs : Nat → Sl) (g : Nat) : Prop := g = p ∨ ∃ i, i < 4 ∧ (cs i).own = some g
/-- what a call of a disk leaves -/
structure DStep (w : World) (base p : Nat) (cs : Nat → Sl) (w' : World) (cs' : Nat → Sl) : Prop where
  keep : Kp (fun g => ¬ Ft p cs g) w w'
  foot : ∀ g, Ft p cs' g → Ft p cs g ∨ w.heap.size ≤ g
  bel : Below base w w'
section
variable {w w1 w2 : World} {base p : Nat} {cs cs1 cs2 : Nat → Sl} {d : D}
theorem DAt.plt (h : DAt w base p cs d) : p < w.heap.size := (Array.getElem?_eq_some_iff.1 h.box).1
theorem DAt.base_le (h : DAt w base p cs d) : base ≤ w.heap.size := Nat.le_trans h.hp (Nat.le_of_lt h.plt)
theorem DAt.ft (h : DAt w base p cs d) {g : Nat} (hg : Ft p cs g) : base ≤ g ∧ g < w.heap.size := by
  rcases hg with rfl | ⟨i, hi, hg⟩
  · exact ⟨h.hp, h.plt⟩
  · exact (h.row i hi).blk hg
theorem DAt.blocks (h : DAt w base p cs d) (hb : ∀ g, Ft p cs g → w1.heap[g]? = w.heap[g]?) : DAt w1 base p cs d :=
  ⟨by rw [hb p (.inl rfl)]; exact h.box, h.hp, fun i hi => (h.row i hi).block fun g hg => hb g (.inr ⟨i, hi, hg⟩), h.np, h.ap⟩
theorem DAt.below (h : DAt w base p cs d) (hb : Below w.heap.size w w1) : DAt w1 base p cs d := h.blocks fun g hg => hb.block g (h.ft hg).2
theorem DAt.kept {Q : Nat → Prop} (h : DAt w base p cs d) (hk : Kp Q w w1) (hq : ∀ g, Ft p cs g → Q g) : DAt w1 base p cs d := h.blocks fun g hg => hk.2 g (hq g hg) (h.ft hg).2
theorem DAt.less {b : Nat} (h : DAt w base p cs d) (hb : b ≤ base) : DAt w b p cs d := ⟨h.box, Nat.le_trans hb h.hp, fun i hi => OwB.less (h.row i hi) hb, h.np, h.ap⟩
theorem DAt.cell (h : DAt w base p cs d) (i : Nat) (v : Value) (hv : (dcells cs d)[i]? = some v) : w.cell? ⟨p, i, none⟩ = some v := by
  have hb := h.box
  unfold World.cell?
  rw [hb]
  exact hv
theorem DAt.free (h : DAt w base p cs d) (i : Nat) : w.frozen? ⟨p, i, none⟩ = false := by
  have hb := h.box
  unfold World.frozen?
  rw [hb]
  simp
theorem DAt.cells (h : DAt w base p cs d) : w.cell? ⟨p, 0, none⟩ = some (.slice (cs 0).A (cs 0).n (cs 0).c) ∧ w.cell? ⟨p, 1, none⟩ = some (.slice (cs 1).A (cs 1).n (cs 1).c) ∧ w.cell? ⟨p, 2, none⟩ = some (.slice (cs 2).A (cs 2).n (cs 2).c) ∧ w.cell? ⟨p, 3, none⟩ = some (.slice (cs 3).A (cs 3).n (cs 3).c) ∧ w.cell? ⟨p, 4, none⟩ = some (.bool d.off) ∧ w.cell? ⟨p, 5, none⟩ = some (.int .i64 d.n) ∧ w.cell? ⟨p, 6, none⟩ = some (.int .i64 d.a) ∧ w.cell? ⟨p, 7, none⟩ = some (.int .i64 d.k) :=
  ⟨h.cell 0 _ rfl, h.cell 1 _ rfl, h.cell 2 _ rfl, h.cell 3 _ rfl, h.cell 4 _ rfl, h.cell 5 _ rfl, h.cell 6 _ rfl, h.cell 7 _ rfl⟩
theorem DAt.frees (h : DAt w base p cs d) : w.frozen? ⟨p, 0, none⟩ = false ∧ w.frozen? ⟨p, 1, none⟩ = false ∧ w.frozen? ⟨p, 2, none⟩ = false ∧ w.frozen? ⟨p, 3, none⟩ = false ∧ w.frozen? ⟨p, 4, none⟩ = false ∧ w.frozen? ⟨p, 5, none⟩ = false ∧ w.frozen? ⟨p, 6, none⟩ = false ∧ w.frozen? ⟨p, 7, none⟩ = false :=
  ⟨h.free 0, h.free 1, h.free 2, h.free 3, h.free 4, h.free 5, h.free 6, h.free 7⟩
theorem DStep.refl (w : World) (base p : Nat) (cs : Nat → Sl) : DStep w base p cs w cs := ⟨Kp.refl _, fun _ h => .inl h, Below.refl _ _⟩
theorem DStep.trans (h : DStep w base p cs w1 cs1) (k : DStep w1 base p cs1 w2 cs2) : DStep w base p cs w2 cs2 := by
  have hs := h.keep.1
  refine ⟨⟨Nat.le_trans hs k.keep.1, fun g a b => ?_⟩, fun g hg => ?_, h.bel.trans k.bel⟩
  · rw [k.keep.2 g (fun c => (h.foot g c).elim a (fun e => by omega)) (by omega)]
    exact h.keep.2 g a b
  · rcases k.foot g hg with e | e
    · exact h.foot g e
    · exact .inr (Nat.le_trans hs e)
theorem DStep.below (hb : Below w.heap.size w w1) (hbase : base ≤ w.heap.size) : DStep w base p cs w1 cs := ⟨⟨hb.size, fun g _ h => hb.block g h⟩, fun _ h => .inl h, hb.mono hbase⟩
/-- a store into a box of the disk -/
theorem set_box (h : DAt w base p cs d) (i : Nat) (v : Value) : (w.setCell ⟨p, i, none⟩ v).heap[p]? = some (.cells ((dcells cs d).setIfInBounds i v) 57 (0, 0)) := by
  simp [World.setCell, h.box, Array.getElem?_modify]
theorem DAt.scal (h : DAt w base p cs d) (i : Nat) (v : Value) {d' : D} (hb : d'.b = d.b) (hc : (dcells cs d).setIfInBounds i v = dcells cs d') : DAt (w.setCell ⟨p, i, none⟩ v) base p cs d' := by
  refine ⟨by rw [set_box h, hc], h.hp, fun j hj => ?_, h.np, h.ap⟩
  rw [hb]
  exact (h.row j hj).block fun g hg => Below.heap_setCell _ _ _ _ (fun e => h.np j hj (by rw [hg]; exact congrArg some e))
theorem DStep.store (h : DAt w base p cs d) (i : Nat) (v : Value) : DStep w base p cs (w.setCell ⟨p, i, none⟩ v) cs :=
  ⟨⟨by simp [World.setCell], fun g hg _ => Below.heap_setCell _ _ _ _ (fun e => hg (.inl e))⟩, fun _ hg => .inl hg, (Below.refl _ _).setCell (p := ⟨p, i, none⟩) h.hp _⟩
/-- a slot of the disk is written: what was appended to, cut, or nothing -/
theorem DAt.slot (h : DAt w base p cs d) {i : Nat} (hi : i < 4) {x : Sl} {ys : List Int} (hg : w.grownBy w1 (cs i).own) (hx : OwS w1 base x ys) (ho : ∀ g, x.own = some g → (cs i).own = some g ∨ w.heap.size ≤ g) :
    DAt (w1.setCell ⟨p, i, none⟩ x.val) base p (upd cs i x) (putB d i ys) ∧ DStep w base p cs (w1.setCell ⟨p, i, none⟩ x.val) (upd cs i x) := by
  have hp1 : w1.heap[p]? = w.heap[p]? := hg.block p h.plt (fun e => h.np i hi e.symm)
  have hxp : x.own ≠ some p := fun e => (ho p e).elim (h.np i hi) (fun e => by have := h.plt; omega)
  have hs := hg.size
  have hown : ∀ j, (upd cs i x j).own = some p → j < 4 → False := fun j e hj => by
    by_cases hji : j = i
    · subst hji; rw [upd_same] at e; exact hxp e
    · rw [upd_ne _ _ hji] at e; exact h.np j hj e
  refine ⟨⟨?_, h.hp, fun j hj => ?_, fun j hj e => hown j e hj, fun j k g hj hk e1 e2 => ?_⟩, ⟨⟨by simpa [World.setCell] using hs, fun g a b => ?_⟩, fun g hg' => ?_, ?_⟩⟩
  · have hb := h.box
    rw [← hp1] at hb
    have : (w1.setCell ⟨p, i, none⟩ x.val).heap[p]? = some (.cells ((dcells cs d).setIfInBounds i x.val) 57 (0, 0)) := by simp [World.setCell, hb, Array.getElem?_modify]
    rw [this]
    congr 2
    match i, hi with
    | 0, _ => rfl
    | 1, _ => rfl
    | 2, _ => rfl
    | 3, _ => rfl
  · by_cases hji : j = i
    · subst hji
      show OwS _ base (upd cs j x j) (upd d.b j ys j)
      rw [upd_same, upd_same]
      exact hx.block fun g e => Below.heap_setCell _ _ _ _ (fun e2 => hxp (by rw [e]; exact congrArg some e2))
    · show OwS _ base (upd cs i x j) (upd d.b i ys j)
      rw [upd_ne _ _ hji, upd_ne _ _ hji]
      have h1 := (h.row j hj).keptN hg fun g e e2 => hji (h.ap j i g hj hi e e2)
      exact h1.block fun g e => Below.heap_setCell _ _ _ _ (fun e2 => h.np j hj (by rw [e]; exact congrArg some e2))
  · by_cases hji : j = i <;> by_cases hki : k = i
    · omega
    · subst hji
      rw [upd_same] at e1
      rw [upd_ne _ _ hki] at e2
      rcases ho g e1 with e | e
      · exact h.ap j k g hj hk e e2
      · have := ((h.row k hk).blk e2).2
        omega
    · subst hki
      rw [upd_same] at e2
      rw [upd_ne _ _ hji] at e1
      rcases ho g e2 with e | e
      · exact h.ap j k g hj hk e1 e
      · have := ((h.row j hj).blk e1).2
        omega
    · rw [upd_ne _ _ hji] at e1
      rw [upd_ne _ _ hki] at e2
      exact h.ap j k g hj hk e1 e2
  · rw [Below.heap_setCell _ _ _ _ (show g ≠ p from fun e => a (.inl e))]
    exact hg.block g b (fun e => a (.inr ⟨i, hi, e.symm⟩))
  · rcases hg' with e | ⟨j, hj, e⟩
    · exact .inl (.inl e)
    · by_cases hji : j = i
      · subst hji
        rw [upd_same] at e
        exact (ho g e).elim (fun e => .inl (.inr ⟨j, hj, e⟩)) .inr
      · rw [upd_ne _ _ hji] at e
        exact .inl (.inr ⟨j, hj, e⟩)
  · exact ((Below.refl base w).grown hg h.base_le (fun k e => ((h.row i hi).blk e).1)).setCell (p := ⟨p, i, none⟩) h.hp _
/-- a slot is given what lies in no block of the disk -/
theorem DAt.slotF (h : DAt w base p cs d) {i : Nat} (hi : i < 4) {x : Sl} {ys : List Int} (hx : OwS w base x ys) (ho : ∀ g, x.own = some g → ¬ Ft p cs g) :
    DAt (w.setCell ⟨p, i, none⟩ x.val) base p (upd cs i x) (putB d i ys) := by
  have hxp : x.own ≠ some p := fun e => ho p e (.inl rfl)
  refine ⟨?_, h.hp, fun j hj => ?_, fun j hj e => ?_, fun j k g hj hk e1 e2 => ?_⟩
  · rw [set_box h]
    congr 2
    match i, hi with
    | 0, _ => rfl
    | 1, _ => rfl
    | 2, _ => rfl
    | 3, _ => rfl
  · by_cases hji : j = i
    · subst hji
      show OwS _ base (upd cs j x j) (upd d.b j ys j)
      rw [upd_same, upd_same]
      exact hx.block fun g e => Below.heap_setCell _ _ _ _ (fun e2 => hxp (by rw [e]; exact congrArg some e2))
    · show OwS _ base (upd cs i x j) (upd d.b i ys j)
      rw [upd_ne _ _ hji, upd_ne _ _ hji]
      exact (h.row j hj).block fun g e => Below.heap_setCell _ _ _ _ (fun e2 => h.np j hj (by rw [e]; exact congrArg some e2))
  · by_cases hji : j = i
    · subst hji; rw [upd_same] at e; exact hxp e
    · rw [upd_ne _ _ hji] at e; exact h.np j hj e
  · by_cases hji : j = i <;> by_cases hki : k = i
    · omega
    · subst hji
      rw [upd_same] at e1
      rw [upd_ne _ _ hki] at e2
      exact absurd (.inr ⟨k, hk, e2⟩) (ho g e1)
    · subst hki
      rw [upd_same] at e2
      rw [upd_ne _ _ hji] at e1
      exact absurd (.inr ⟨j, hj, e1⟩) (ho g e2)
    · rw [upd_ne _ _ hji] at e1
      rw [upd_ne _ _ hki] at e2
      exact h.ap j k g hj hk e1 e2
theorem grownBy_undrew {w w1 : World} {row : Option Nat} (h : w.drew.grownBy w1 row) : w.grownBy w1 row := ⟨h.os, h.tape, h.output, h.size, h.block⟩
theorem grownBy_self (w : World) (row : Option Nat) : w.grownBy w row := World.grownBy.refl w row
end
/-- behind a call of a disk -/
def DPost (w : World) (base p : Nat) (cs : Nat → Sl) (d' : D) (w' : World) : Prop := ∃ cs', DAt w' base p cs' d' ∧ DStep w base p cs w' cs'
def RetD (w : World) (base p : Nat) (cs : Nat → Sl) (r : Value) (d' : D) (e : Ending) (w' : World) : Prop := e = .returned r ∧ DPost w base p cs d' w'
theorem DAt.at0 {w : World} {base p : Nat} {cs : Nat → Sl} {d : D} (h : DAt w base p cs d) {f : Nat} (hf : f < 2) : w.cell? ⟨p, f * 2, none⟩ = some (.slice (cs (2 * f)).A (cs (2 * f)).n (cs (2 * f)).c) := by
  rw [Nat.mul_comm f 2]
  refine h.cell (2 * f) _ ?_
  match f, hf with
  | 0, _ => rfl
  | 1, _ => rfl
theorem DAt.at1 {w : World} {base p : Nat} {cs : Nat → Sl} {d : D} (h : DAt w base p cs d) {f : Nat} (hf : f < 2) : w.cell? ⟨p, f * 2 + 1, none⟩ = some (.slice (cs (2 * f + 1)).A (cs (2 * f + 1)).n (cs (2 * f + 1)).c) := by
  rw [Nat.mul_comm f 2]
  refine h.cell (2 * f + 1) _ ?_
  match f, hf with
  | 0, _ => rfl
  | 1, _ => rfl
theorem RetD.from {w w1 w' : World} {base p : Nat} {cs cs1 : Nat → Sl} {r : Value} {d' : D} {e : Ending} (s : DStep w base p cs w1 cs1) (h : RetD w1 base p cs1 r d' e w') : RetD w base p cs r d' e w' := by
  obtain ⟨he, cs', h1, h2⟩ := h
  exact ⟨he, cs', h1, s.trans h2⟩
theorem own_same {A : Option Addr} {n c n' c' : Nat} {g : Nat} (h : (Value.slice A n c).ownBlock = some g) : (Value.slice A n' c').ownBlock = some g := by
  cases A
  · cases h
  · exact h
theorem DAt.drewd {w : World} {base p : Nat} {cs : Nat → Sl} {d : D} (h : DAt w base p cs d) : DAt w.drew base p cs d := h.below (Below.refl _ _).drew
theorem DStep.drewd {w w1 : World} {base p : Nat} {cs cs1 : Nat → Sl} (h : DStep w base p cs w1 cs1) : DStep w base p cs w1.drew cs1 := ⟨⟨h.keep.1, h.keep.2⟩, h.foot, h.bel.drew⟩
end Go.Proofs.Ytbmdglbhmianjaa.diskr
