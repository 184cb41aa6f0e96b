/- What lies in memory between the rounds of the walk of PackNumbers; leaving with several marks; two ways out of a range over a function joined. -/
import Derived.Test.YtlbhmbbmpmhcjaaNums
import Derived.OpenShut
set_option linter.unusedVariables false
set_option linter.unusedSimpArgs false
namespace Go.Proofs.Ytlbhmbbmpmhcjaa.numsm
open Go.RowKit Go.Shelf Go.Proofs.YtlbhmbbmpmhcjaaW.PrintWords Go.Proofs.Ytlbhmbbmpmhcjaa.base Go.Proofs.Ytlbhmbbmpmhcjaa.mem Go.Proofs.Ytlbhmbbmpmhcjaa.packp Go.Proofs.Ytlbhmbbmpmhcjaa.packw Go.Proofs.Ytlbhmbbmpmhcjaa.samew Go.Proofs.Ytlbhmbbmpmhcjaa.keep Go.Proofs.Ytlbhmbbmpmhcjaa.numsp Go.Proofs.Ytlbhmbbmpmhcjaa.numsw

theorem prefix_next {α : Type} {pre L : List α} {y : α} (h : pre <+: L) (hy : L[pre.length]? = some y) : pre ++ [y] <+: L := by
  obtain ⟨t, rfl⟩ := h
  rw [List.getElem?_append_right (Nat.le_refl _), Nat.sub_self] at hy
  cases t with
  | nil => cases hy
  | cons z t => simp at hy; subst hy; exact ⟨t, by simp⟩
theorem prefix_is {α : Type} {pre L : List α} {x y : α} (h : pre ++ [x] <+: L) (hy : L[pre.length]? = some y) : x = y := by
  obtain ⟨t, rfl⟩ := h
  simp at hy
  exact hy
theorem keepsFrom_below {B : Nat} {W W' : World} (hb : Below W.heap.size W W') : KeepsFrom B W W' := ⟨hb.size, fun i o _ hi _ => by rw [hb.block i (Array.getElem?_eq_some_iff.1 hi).1]; exact hi⟩
theorem keepsFrom_set {B : Nat} {W : World} (p : Addr) (v : Value) : KeepsFrom B W (W.setCell p v) := (KeepsOthers.setCell W p v).from B
theorem items_nil {f p : Nat} {xs : List Int} (h : items f p xs = []) (hf : xs.length ≤ f) : (dec 0 xs).2 = 0 := by
  cases f with
  | zero =>
    have : xs = [] := List.eq_nil_of_length_eq_zero (by omega)
    subst this; rfl
  | succ f =>
    by_cases h0 : (dec 0 xs).2 = 0
    · exact h0
    · rw [items_next _ _ _ h0] at h; cases h
theorem items_len (f : Nat) : ∀ (p : Nat) (xs : List Int), (items f p xs).length ≤ f := by
  induction f with
  | zero => intro p xs; simp [items]
  | succ f ih =>
    intro p xs
    by_cases h0 : (dec 0 xs).2 = 0
    · rw [items_end _ _ _ h0]; simp
    · rw [items_next _ _ _ h0, List.length_cons]; have := ih (p + (dec 0 xs).2) (xs.drop (dec 0 xs).2); omega
/-- a box of one whole number -/
def PC (p : Nat) (v : Int) (W : World) : Prop := W.cell? ⟨p, 0, none⟩ = some (.int .i64 v) ∧ W.frozen? ⟨p, 0, none⟩ = false
/-- what lies ahead of the loop -/
def NM (b0 lo hi Bs : Nat) (sv : Value) (stop : Int) (xs : List Int) (ds : List Nat) (w : World) (W : World) : Prop :=
  W.cell? ⟨b0, 0, none⟩ = some sv ∧ W.cell? ⟨b0 + 1, 0, none⟩ = some (.int .i64 stop) ∧ W.cell? ⟨b0 + 1 + 1, 0, none⟩ = some (.bool false) ∧ W.frozen? ⟨b0 + 1 + 1, 0, none⟩ = false ∧ NumsAt lo hi W Bs xs ∧ hi ≤ W.heap.size ∧ Below b0 w W ∧ ∀ D ∈ ds, W.heap[D]? = some (.deferred (some []))
section
variable {b0 lo hi Bs p : Nat} {sv : Value} {stop v : Int} {xs : List Int} {ds : List Nat} {w W W' : World}
theorem PC.own (h : PC p v W) {row : Option Nat} (hg : W.grownBy W' row) (hr : ∀ r, row = some r → ∃ o : Obj, W.heap[r]? = some o ∧ o.isCells = false) : PC p v W' := ⟨cell_kept h.1 hg hr, (frozen_kept h.1 hg hr).trans h.2⟩
theorem PC.below (h : PC p v W) (hb : Below W.heap.size W W') : PC p v W' := ⟨pw_cell_below hb h.1, (hb.frozen (p := ⟨p, 0, none⟩) (World.block_lt_of_cell? _ _ h.1)).trans h.2⟩
theorem PC.new (W : World) (t : TypeId) (v : Int) : PC W.heap.size v (W.alloc (.cells #[.int .i64 v] t)) := ⟨by simp, by simp⟩
theorem PC.set (h : PC p v W) (v' : Int) : PC p v' (W.setCell ⟨p, 0, none⟩ (.int .i64 v')) := ⟨World.cell?_setCell_same' _ _ _ (by rw [h.1]; rfl), by rw [World.frozen?_setCell]; exact h.2⟩
theorem NM.own {B : Nat} (h : NM b0 lo hi Bs sv stop xs ds w W) {row : Option Nat} (hg : W.grownBy W' row) (hr : ∀ r, row = some r → B ≤ r ∧ ∃ o : Obj, W.heap[r]? = some o ∧ o.isCells = false) (hB : hi ≤ B) (hb0 : b0 ≤ w.heap.size) (hbB : b0 ≤ B) (hD : ∀ D ∈ ds, D < B) : NM b0 lo hi Bs sv stop xs ds w W' := by
  obtain ⟨h1, h2, h3, h4, h5, h6, h7, h8⟩ := h
  have hr' := fun r e => (hr r e).2
  refine ⟨cell_kept h1 hg hr', cell_kept h2 hg hr', cell_kept h3 hg hr', (frozen_kept h3 hg hr').trans h4, h5.band ((Band.refl h6).grown hg (fun j e => by have := (hr j e).1; omega)), Nat.le_trans h6 hg.size, h7.grown hg (Nat.le_trans hb0 h7.size) (fun k e => Nat.le_trans hbB (hr k e).1), fun D hd => ?_⟩
  rw [hg.block D (Array.getElem?_eq_some_iff.1 (h8 D hd)).1 (fun e => by have := (hr D e.symm).1; have := hD D hd; omega)]
  exact h8 D hd
theorem NM.below (h : NM b0 lo hi Bs sv stop xs ds w W) (hb : Below W.heap.size W W') (hb0 : b0 ≤ w.heap.size) : NM b0 lo hi Bs sv stop xs ds w W' := by
  obtain ⟨h1, h2, h3, h4, h5, h6, h7, h8⟩ := h
  refine ⟨pw_cell_below hb h1, pw_cell_below hb h2, pw_cell_below hb h3, (hb.frozen (p := ⟨b0 + 1 + 1, 0, none⟩) (World.block_lt_of_cell? _ _ h3)).trans h4, h5.band ((Band.of_below hb).narrow h6), Nat.le_trans h6 hb.size, h7.trans (hb.mono (Nat.le_trans hb0 h7.size)), fun D hd => ?_⟩
  rw [hb.block D (Array.getElem?_eq_some_iff.1 (h8 D hd)).1]
  exact h8 D hd
theorem NM.set (h : NM b0 lo hi Bs sv stop xs ds w W) (hp : hi ≤ p) (hb : b0 + 1 + 1 < p) (hD : ∀ D ∈ ds, D ≠ p) (v : Value) : NM b0 lo hi Bs sv stop xs ds w (W.setCell ⟨p, 0, none⟩ v) := by
  obtain ⟨h1, h2, h3, h4, h5, h6, h7, h8⟩ := h
  have ne : ∀ i, i < p → (⟨p, 0, none⟩ : Addr) ≠ ⟨i, 0, none⟩ := by intro i hi e; injection e with e; omega
  refine ⟨by rw [World.cell?_setCell_other _ _ _ _ (ne _ (by omega))]; exact h1, by rw [World.cell?_setCell_other _ _ _ _ (ne _ (by omega))]; exact h2, by rw [World.cell?_setCell_other _ _ _ _ (ne _ (by omega))]; exact h3, by rw [World.frozen?_setCell]; exact h4, h5.band ((Band.refl h6).set (.inr hp) _ _), by simpa [World.setCell] using h6, h7.setCell (p := ⟨p, 0, none⟩) (show b0 ≤ p by omega) _, fun D hd => ?_⟩
  rw [Below.heap_setCell _ _ _ _ (hD D hd)]
  exact h8 D hd
theorem NM.more (h : NM b0 lo hi Bs sv stop xs ds w W) {D : Nat} (hD : W.heap[D]? = some (.deferred (some []))) : NM b0 lo hi Bs sv stop xs (D :: ds) w W := by
  obtain ⟨h1, h2, h3, h4, h5, h6, h7, h8⟩ := h
  refine ⟨h1, h2, h3, h4, h5, h6, h7, fun E hE => ?_⟩
  rcases List.mem_cons.1 hE with rfl | hE
  · exact hD
  · exact h8 E hE
end
theorem leavesAll {F : Fence} {n : Nat} {P : Program} {fn : Func} {tmps : Array Value} {R : Ending → World → Prop} (b0 : Nat) : ∀ (ds : List Nat) (w : World), ds.Nodup → (∀ D ∈ ds, b0 ≤ D) → (∀ D ∈ ds, w.heap[D]? = some (.deferred (some []))) →
    (∀ w', (∀ b v, w.cell? ⟨b, 0, none⟩ = some v → w'.cell? ⟨b, 0, none⟩ = some v) → Below b0 w w' → LeavesIn F n P fn tmps R [] .returning w') → LeavesInM F n P fn tmps R (ds.map fun D => { target := .collected D, args := #[] }) .returning w := by
  intro ds
  induction ds with
  | nil => intro w _ _ _ h; exact h w (fun _ _ h => h) (Below.refl _ _)
  | cons D ds ih =>
    intro w hn hb hd h
    have hK := hd D (by simp)
    refine ⟨by simp, .inl ⟨D, _, rfl, run_takeDeferred hK, ?_⟩⟩
    have hlt := (Array.getElem?_eq_some_iff.1 hK).1
    have hbl : Below b0 w (w.putObj D (.deferred none)) := (Below.refl b0 w).grown (grownBy_putObj' w D _) (Nat.le_trans (hb D (by simp)) (Nat.le_of_lt hlt)) (fun k e => by cases e; exact hb D (by simp))
    have hcell : ∀ b v, w.cell? ⟨b, 0, none⟩ = some v → (w.putObj D (.deferred none)).cell? ⟨b, 0, none⟩ = some v := fun b v hc => cell_kept hc (grownBy_putObj' _ D (.deferred none)) (fun r e => by cases e; exact ⟨_, hK, rfl⟩)
    refine ih _ (List.nodup_cons.1 hn).2 (fun E hE => hb E (by simp [hE])) (fun E hE => ?_) (fun w' h1 h2 => h w' (fun b v hc => h1 b v (hcell b v hc)) (hbl.trans h2))
    have hne : E ≠ D := fun e => (List.nodup_cons.1 hn).1 (e ▸ hE)
    rw [World.putObj_heap_other hne]
    exact hd E (by simp [hE])
end Go.Proofs.Ytlbhmbbmpmhcjaa.numsm
