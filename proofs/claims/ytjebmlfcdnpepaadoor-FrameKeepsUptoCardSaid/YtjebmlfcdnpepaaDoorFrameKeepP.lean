/- What stays of one's own slices of bytes while some of them are turned. -/
import Derived.Test.YtjebmlfcdnpepaaDoorFrameAlike
import Derived.Test.YtjebmlfcdnpepaaDoorKeepP
import Derived.Laws.OwnMore
set_option linter.unusedVariables false
set_option linter.unusedSimpArgs false
namespace Go.Proofs.YtjebmlfcdnpepaaDoor.framek
open Go.RowKit Go.Shelf Go.Proofs.YtjebmlfcdnpepaaDoorW.PrintWords Go.Proofs.YtjebmlfcdnpepaaDoor.base Go.Proofs.YtjebmlfcdnpepaaDoor.mem Go.Proofs.YtjebmlfcdnpepaaDoor.samew Go.Proofs.YtjebmlfcdnpepaaDoor.keep Go.Proofs.YtjebmlfcdnpepaaDoor.framea

theorem OwV.keptB {w w' : World} {base n c : Nat} {A : Option Addr} {cells : List Value} (h : OwV w base A n c cells) {b m c' : Nat} {a : Option Addr} {ys : List Int} (hb : OwB w b a m c' ys) {row : Option Nat} (hg : w.grownBy w' row) (hr : ∀ g, row = some g → (Value.slice a m c').ownBlock = some g) : OwV w' base A n c cells := by
  refine World.ownsRow.kept h hg ?_
  rcases h.2 with ⟨hv, _⟩ | ⟨g, cap, cur, hv, _, hb', _, _, _⟩
  · rw [hv]; exact .inl rfl
  · rw [hv]
    refine .inr fun e => ?_
    have hr' := hr g e.symm
    rcases hb.1.2 with ⟨hv2, _⟩ | ⟨g', cap', cur', hv2, _, hb2, _⟩
    · rw [hv2] at hr'; cases hr'
    · rw [hv2] at hr'
      cases hr'
      rw [hb'] at hb2
      injection hb2 with hb2
      injection hb2 with _ e2 _
      revert e2
      decide
theorem OwV.at_ {w : World} {base n c g : Nat} {cells : List Value} (h : OwV w base (some ⟨g, 0, none⟩) n c cells) (i : Nat) {v : Value} (hv : cells[i]? = some v) : w.cell? ⟨g, i, none⟩ = some v ∧ w.frozen? ⟨g, i, none⟩ = false :=
  ⟨by have := World.ownsRow.cells h (g := g) rfl i _ hv; rwa [add_plain] at this, World.ownsRow.frozenAt h i⟩
theorem OwV.store {w : World} {base n c g : Nat} {cells : List Value} (h : OwV w base (some ⟨g, 0, none⟩) n c cells) (i : Nat) (v : Value) : OwV (w.setCell ⟨g, i, none⟩ v) base (some ⟨g, 0, none⟩) n c (cells.set i v) := (World.ownsRow.stored h i v).1
theorem OwV.blk {w : World} {base n c : Nat} {A : Option Addr} {cells : List Value} (h : OwV w base A n c cells) : ∀ j, (Value.slice A n c).ownBlock = some j → base ≤ j ∧ j < w.heap.size := by
  intro j hj
  rcases h.2 with ⟨hv, _⟩ | ⟨g, cap, cur, hv, hb, hh, _⟩
  · rw [hv] at hj; cases hj
  · rw [hv] at hj; cases hj
    exact ⟨hb, (Array.getElem?_eq_some_iff.1 hh).1⟩
theorem OwV.form {w : World} {base n c : Nat} {A : Option Addr} {cells : List Value} (h : OwV w base A n c cells) (hn : 0 < n) : ∃ g, A = some ⟨g, 0, none⟩ := by
  obtain ⟨g, cap, hv, _, _⟩ := World.ownsRow.form h hn
  injection hv with h1
  exact ⟨g, h1⟩
/-- no two of the rows in one block -/
def Apart (cells : List Value) : Prop := ∀ (i j g : Nat) (a : Option Addr) (m c : Nat) (a' : Option Addr) (m' c' : Nat), cells[i]? = some (Value.slice a m c) → cells[j]? = some (Value.slice a' m' c') → (Value.slice a m c).ownBlock = some g → (Value.slice a' m' c').ownBlock = some g → i = j
/-- the rows from k on stand as they were -/
structure RK (W : World) (base k : Nat) (cells cells3 : List Value) (xss : List (List Int)) : Prop where
  same : ∀ i, k ≤ i → cells[i]? = cells3[i]?
  own : ∀ i, k ≤ i → i < xss.length → ∃ a m c, cells3[i]? = some (.slice a m c) ∧ OwB W base a m c (xss.getD i [])
section
variable {W W' : World} {base k : Nat} {cells cells3 : List Value} {xss : List (List Int)}
theorem RK.of (h : Rws W base cells xss) : RK W base 0 cells cells xss := ⟨fun _ _ => rfl, fun i _ hi => h.at_ i hi⟩
theorem RK.map (h : RK W base k cells cells3 xss) (hw : ∀ a m c ys, OwB W base a m c ys → OwB W' base a m c ys) : RK W' base k cells cells3 xss :=
  ⟨h.same, fun i h1 h2 => by obtain ⟨a, m, c, e, ho⟩ := h.own i h1 h2; exact ⟨a, m, c, e, hw _ _ _ _ ho⟩⟩
theorem RK.below (h : RK W base k cells cells3 xss) (hb : Below W.heap.size W W') : RK W' base k cells cells3 xss := h.map fun _ _ _ _ ho => ho.below hb
theorem RK.next (h : RK W base k cells cells3 xss) : RK W base (k + 1) cells cells3 xss := ⟨fun i hi => h.same i (by omega), fun i hi => h.own i (by omega)⟩
theorem RK.put (h : RK W base (k + 1) cells cells3 xss) (v : Value) : RK W base (k + 1) (cells.set k v) cells3 xss :=
  ⟨fun i hi => by rw [List.getElem?_set_ne (by omega)]; exact h.same i hi, h.own⟩
theorem RK.grown (h : RK W base (k + 1) cells cells3 xss) (hap : Apart cells3) {a : Option Addr} {m c : Nat} (he : cells3[k]? = some (.slice a m c)) {row : Option Nat} (hg : W.grownBy W' row) (hr : ∀ g, row = some g → (Value.slice a m c).ownBlock = some g) : RK W' base (k + 1) cells cells3 xss :=
  ⟨h.same, fun i h1 h2 => by
    obtain ⟨a', m', c', e, ho⟩ := h.own i h1 h2
    refine ⟨a', m', c', e, OwB.keptN ho hg fun j hj hrow => ?_⟩
    have := hap k i j _ _ _ _ _ _ he e (hr j hrow) hj
    omega⟩
theorem RK.set (h : RK W base (k + 1) cells cells3 xss) (hap : Apart cells3) {g m c : Nat} (he : cells3[k]? = some (.slice (some ⟨g, 0, none⟩) m c)) (i : Nat) (v : Value) : RK (W.setCell ⟨g, i, none⟩ v) base (k + 1) cells cells3 xss :=
  h.grown hap he (grownBy_set W g i v) fun g' e => by cases e; rfl
theorem RK.head {b n c g : Nat} {cs : List Value} (h : RK W base k cells cells3 xss) (ho : OwV W b (some ⟨g, 0, none⟩) n c cs) (i : Nat) (v : Value) : RK (W.setCell ⟨g, i, none⟩ v) base k cells cells3 xss :=
  h.map fun a m c ys hb => OwB.keptT hb (grownBy_set W g i v) fun r e => by cases e; exact OwV.row ho g rfl
end
theorem OwB.head {W : World} {base b n c g : Nat} {A : Option Addr} {m c' : Nat} {ys : List Int} {cs : List Value} (h : OwB W base A m c' ys) (ho : OwV W b (some ⟨g, 0, none⟩) n c cs) (i : Nat) (v : Value) : OwB (W.setCell ⟨g, i, none⟩ v) base A m c' ys :=
  OwB.keptT h (grownBy_set W g i v) fun r e => by cases e; exact OwV.row ho g rfl
end Go.Proofs.YtjebmlfcdnpepaaDoor.framek
