/- What a walk over the frames knows of memory; both ways out of the loop joined. -/
import Derived.Test.YtjebmlfcdnpepaaDoorFrameAlike
set_option linter.unusedVariables false
set_option linter.unusedSimpArgs false
namespace Go.Proofs.YtjebmlfcdnpepaaDoor.framen
open Go.RowKit Go.Shelf Go.Proofs.YtjebmlfcdnpepaaDoorW.PrintWords Go.Proofs.YtjebmlfcdnpepaaDoor.base Go.Proofs.YtjebmlfcdnpepaaDoor.mem Go.Proofs.YtjebmlfcdnpepaaDoor.crcp Go.Proofs.YtjebmlfcdnpepaaDoor.crcw Go.Proofs.YtjebmlfcdnpepaaDoor.samew Go.Proofs.YtjebmlfcdnpepaaDoor.keep Go.Proofs.YtjebmlfcdnpepaaDoor.framep Go.Proofs.YtjebmlfcdnpepaaDoor.framew Go.Proofs.YtjebmlfcdnpepaaDoor.frameit Go.Proofs.YtjebmlfcdnpepaaDoor.framem Go.Proofs.YtjebmlfcdnpepaaDoor.framel Go.Proofs.YtjebmlfcdnpepaaDoor.framea Go.Proofs.YtjebmlfcdnpepaaDoor.framer Go.Proofs.YtjebmlfcdnpepaaDoor.over

theorem prefix_at {α : Type} {pre L : List α} {x : α} (h : pre ++ [x] <+: L) : L[pre.length]? = some x := by
  obtain ⟨t, rfl⟩ := h
  simp
/-- the places are one behind the other -/
theorem fitems_place : ∀ (pre : List (Nat × Nat)) (f p : Nat) (xs : List Int) (x : Nat × Nat), pre ++ [x] <+: fitems f p xs → x.1 = (match pre.getLast? with | none => p | some y => y.1 + 8 + y.2) := by
  intro pre
  induction pre with
  | nil =>
    intro f p xs x h
    cases f with
    | zero => simp [fitems] at h
    | succ f =>
      by_cases h0 : firstN xs = 0
      · rw [fitems_end _ _ _ h0] at h; simp at h
      · rw [fitems_next _ _ _ h0] at h
        obtain ⟨t, ht⟩ := h
        simp at ht
        obtain ⟨rfl, _⟩ := ht
        rfl
  | cons y pre ih =>
    intro f p xs x h
    cases f with
    | zero => simp [fitems] at h
    | succ f =>
      by_cases h0 : firstN xs = 0
      · rw [fitems_end _ _ _ h0] at h; simp at h
      · rw [fitems_next _ _ _ h0] at h
        have hg := firstN_ge xs h0
        rw [List.cons_append, List.cons_prefix_cons] at h
        obtain ⟨hy, h⟩ := h
        have := ih _ _ _ _ h
        rw [this]
        cases pre with
        | nil => subst hy; simp; omega
        | cons z pre => rfl
theorem flist_place {pre : List (Nat × Nat)} {x : Nat × Nat} {xs : List Int} (h : pre ++ [x] <+: flist xs) : x.1 = endL pre := by
  have := fitems_place pre _ _ _ _ h
  rw [this]
  unfold endL
  cases pre.getLast? <;> rfl
theorem V.place {xs : List Int} {B : Nat} {pre : List It} {x : It} {W : World} (h : V xs B pre x W) : x.p = endOf pre := by
  have h1 := h.1
  rw [List.map_append] at h1
  exact flist_place h1
theorem V.pays {xs : List Int} {B : Nat} {pre : List It} {x : It} {W : World} (h : V xs B pre x W) : (pays xs).getD pre.length [] = pay xs x := by
  have h1 := h.1
  rw [List.map_append] at h1
  have h2 := prefix_at h1
  rw [List.length_map] at h2
  unfold framea.pays
  rw [List.getD_eq_getElem?_getD, List.getElem?_map, h2]
  rfl
theorem pays_len (xs : List Int) : (pays xs).length = (flist xs).length := by simp [pays]
/-- a box of one whole number -/
def PC (p : Nat) (v : Int) (W : World) : Prop := W.cell? ⟨p, 0, none⟩ = some (.int .i64 v) ∧ W.frozen? ⟨p, 0, none⟩ = false
/-- what lay ahead of the loops, and the blocks of deferred calls -/
def FM (w4 : World) (ds : List Nat) (W : World) : Prop := Below w4.heap.size w4 W ∧ ∀ D ∈ ds, W.heap[D]? = some (.deferred (some []))
section
variable {p : Nat} {v : Int} {ds : List Nat} {w4 W W' : World}
theorem PC.own (h : PC p v W) {row : Option Nat} (hg : W.grownBy W' row) (hr : ∀ r, row = some r → ∃ o : Obj, W.heap[r]? = some o ∧ o.isCells = false) : PC p v W' := ⟨cell_kept h.1 hg hr, (frozen_kept h.1 hg hr).trans h.2⟩
theorem PC.below (h : PC p v W) (hb : Below W.heap.size W W') : PC p v W' := ⟨pw_cell_below hb h.1, (hb.frozen (p := ⟨p, 0, none⟩) (World.block_lt_of_cell? _ _ h.1)).trans h.2⟩
theorem PC.new (W : World) (t : TypeId) (v : Int) : PC W.heap.size v (W.alloc (.cells #[.int .i64 v] t)) := ⟨by simp, by simp⟩
theorem PC.set (h : PC p v W) (v' : Int) : PC p v' (W.setCell ⟨p, 0, none⟩ (.int .i64 v')) := ⟨World.cell?_setCell_same' _ _ _ (by rw [h.1]; rfl), by rw [World.frozen?_setCell]; exact h.2⟩
theorem PC.other (h : PC p v W) {q : Nat} (hq : q ≠ p) (u : Value) : PC p v (W.setCell ⟨q, 0, none⟩ u) := ⟨by rw [World.cell?_setCell_other _ _ _ _ (by intro e; injection e with e; exact hq e)]; exact h.1, by rw [World.frozen?_setCell]; exact h.2⟩
theorem PC.ck (h : PC p v W) (hk : CK W W') : PC p v W' := by
  obtain ⟨o, ho, hc⟩ := cells_of_cell h.1
  exact ⟨hk.cell h.1, (World.frozen?_of_block ((hk.2 _ _ ho hc).trans ho.symm)).trans h.2⟩
theorem FM.own {B : Nat} (h : FM w4 ds W) {row : Option Nat} (hg : W.grownBy W' row) (hr : ∀ r, row = some r → B ≤ r ∧ ∃ o : Obj, W.heap[r]? = some o ∧ o.isCells = false) (hB : w4.heap.size ≤ B) (hD : ∀ D ∈ ds, D < B) : FM w4 ds W' :=
  ⟨h.1.grown hg h.1.size (fun k e => Nat.le_trans hB (hr k e).1), fun D hd => by
    rw [hg.block D (Array.getElem?_eq_some_iff.1 (h.2 D hd)).1 (fun e => by have := (hr D e.symm).1; have := hD D hd; omega)]
    exact h.2 D hd⟩
theorem FM.below (h : FM w4 ds W) (hb : Below W.heap.size W W') : FM w4 ds W' :=
  ⟨h.1.trans (hb.mono h.1.size), fun D hd => by rw [hb.block D (Array.getElem?_eq_some_iff.1 (h.2 D hd)).1]; exact h.2 D hd⟩
theorem FM.set (h : FM w4 ds W) (hp : w4.heap.size ≤ p) (hD : ∀ D ∈ ds, D ≠ p) (v : Value) : FM w4 ds (W.setCell ⟨p, 0, none⟩ v) :=
  ⟨h.1.setCell (p := ⟨p, 0, none⟩) hp _, fun D hd => by rw [Below.heap_setCell _ _ _ _ (hD D hd)]; exact h.2 D hd⟩
theorem FM.more (h : FM w4 ds W) {D : Nat} (hD : W.heap[D]? = some (.deferred (some []))) : FM w4 (D :: ds) W :=
  ⟨h.1, fun E hE => by
    rcases List.mem_cons.1 hE with rfl | hE
    · exact hD
    · exact h.2 E hE⟩
end
theorem KT.past {lo hi p : Nat} {W : World} (hw : hi ≤ W.heap.size) (hp : hi ≤ p) (hg : p ≠ 0) (v : Value) : KT lo hi W (W.setCell ⟨p, 0, none⟩ v) :=
  ⟨(Band.refl hw).set (.inr hp) _ _, fun t i hi => by
    rw [World.cell?_setCell_other _ _ _ _ (by intro e; injection e with e; exact hg e)]
    exact t i hi, by simp [World.setCell]⟩
theorem overF {Q : Exit → Act → World → Prop} {g : Operand} {ps : Array Tmp} {assign body : Code} {a : Act} {W0 : World} {Bs lo hi : Nat} {xs : List Int}
    (hg : a.eval g = .func (.func 24) #[] #[.pointer (some ⟨Bs, 0, none⟩)]) (hN : NumsAt lo hi W0 Bs xs) (hhi : hi ≤ W0.heap.size) (hT : Table W0) (hps : 2 = ps.size)
    (I : List It → World → Prop) (Ix : Code → List It → World → Prop) (hI : OwnFrom W0.heap.size I) (hIx : ∀ c, OwnFrom W0.heap.size (Ix c)) (h0 : I [] W0) (J : World → Prop) (id : Nat) (a₁ : It → Act)
    (hassign : ∀ (l : Nat) (x : It) (W : World) (K : Act → World → Prop), K (a₁ x) W →
      assign.wpIn (Fence.wide.inRound l) (6 - 1 - 1) Tryd.prog (Exit.then K (fun _ _ _ => False)) { tmps := (ps.zip (encs x)).foldl (fun t (p, v) => t.setIfInBounds p v) a.tmps, defers := [] } W)
    (hbody : ∀ (l : Nat) (pre : List It) (x : It) (Wa W : World), I pre Wa → I pre W → W0.heap.size ≤ Wa.heap.size → CK Wa W → V xs Wa.heap.size pre x W → body.wpIn (Fence.wide.inRound l) (6 - 1 - 1) Tryd.prog (ownPostG W0.heap.size (KT lo hi) I Ix (pre ++ [x]) W) (a₁ x) W)
    (hS : ∀ ys W, ys.map It.key = flist xs → I ys W → J W) (hSp : ∀ c pre W, pre.map It.key <+: flist xs → Ix c pre W → c = .exit id ∧ J W ∧ ∀ a w, Q .normal a w → Q (.exit id) a w)
    (hend : ∀ (D : Nat) (W : World), W0.heap.size ≤ D → J W → W.heap[D]? = some (.deferred (some [])) → Q .normal { a with defers := { target := .collected D, args := #[] } :: a.defers } W) :
    (Code.rangeFunc g ps assign body).wpIn Fence.wide 6 Tryd.prog Q a W0 := by
  refine wpIn_overV rfl (by decide) (gf := 24) (lb := #[.pointer (some ⟨Bs, 0, none⟩)]) hg trivial (enters_of Tryd.func24 (by kernel_rfl) rfl) (all_v (6 - 1) (by decide) Bs lo hi xs W0 hhi hN hT) (fun h k => KT.trans h k) (KT.put hhi hT) (Below.refl _ _) (fun _ => hps) (fun B => V.own B) I Ix hI hIx h0 a₁ hassign hbody ?_ ?_
  · rintro D ys W hD hS' hi hK
    exact hend D W hD (hS ys W hS' hi) hK
  · rintro D c pre W hD hp hx hK
    obtain ⟨rfl, hJ, hq⟩ := hSp c pre W hp hx
    exact wpIn_exit (hq _ _ (hend D W hD hJ hK))
theorem nilSeqIn (d f : Nat) (e : Array Value) (W : World) : (Op.equalIn (d + 1) 33 (.func (.func f) #[] e) .nilFunc).run Tryd.prog W = .ok false W := by
  simp [Op.equalIn, run_underlying Tryd.underlying33]
theorem nilSeqEq (f : Nat) (e : Array Value) (W : World) : (Op.equal 33 (.func (.func f) #[] e) .nilFunc).run Tryd.prog W = .ok false W := nilSeqIn 9999 f e W
theorem nilSeq (f : Nat) (e : Array Value) (W : World) : (binOp .eql 33 (.func (.func f) #[] e) .nilFunc).run Tryd.prog W = .ok (.bool false) W := by
  simp only [binOp]
  simp [nilSeqEq]
theorem leavesAll {F : Fence} {n : Nat} {P : Program} {fn : Func} {tmps : Array Value} {R : Ending → World → Prop} (b0 : Nat) : ∀ (ds : List Nat) (w : World), ds.Nodup → (∀ D ∈ ds, b0 ≤ D) → (∀ D ∈ ds, w.heap[D]? = some (.deferred (some []))) →
    (∀ w', (∀ b v, w.cell? ⟨b, 0, none⟩ = some v → w'.cell? ⟨b, 0, none⟩ = some v) → Below b0 w w' → LeavesIn F n P fn tmps R [] .returning w') → LeavesInM F n P fn tmps R (ds.map fun D => { target := .collected D, args := #[] }) .returning w := by
  intro ds
  induction ds with
  | nil => intro w _ _ _ h; exact h w (fun _ _ h => h) (Below.refl _ _)
  | cons D ds ih =>
    intro w hn hb hd h
    have hK := hd D (by simp)
    refine ⟨by simp, .inl ⟨D, _, rfl, run_takeDeferred hK, ?_⟩⟩
    have hlt := (Array.getElem?_eq_some_iff.1 hK).1
    have hbl : Below b0 w (w.putObj D (.deferred none)) := (Below.refl b0 w).grown (grownBy_putObj' w D _) (Nat.le_trans (hb D (by simp)) (Nat.le_of_lt hlt)) (fun k e => by cases e; exact hb D (by simp))
    have hcell : ∀ b v, w.cell? ⟨b, 0, none⟩ = some v → (w.putObj D (.deferred none)).cell? ⟨b, 0, none⟩ = some v := fun b v hc => cell_kept hc (grownBy_putObj' _ D (.deferred none)) (fun r e => by cases e; exact ⟨_, hK, rfl⟩)
    refine ih _ (List.nodup_cons.1 hn).2 (fun E hE => hb E (by simp [hE])) (fun E hE => ?_) (fun w' h1 h2 => h w' (fun b v hc => h1 b v (hcell b v hc)) (hbl.trans h2))
    have hne : E ≠ D := fun e => (List.nodup_cons.1 hn).1 (e ▸ hE)
    rw [World.putObj_heap_other hne]
    exact hd E (by simp [hE])
end Go.Proofs.YtjebmlfcdnpepaaDoor.framen
