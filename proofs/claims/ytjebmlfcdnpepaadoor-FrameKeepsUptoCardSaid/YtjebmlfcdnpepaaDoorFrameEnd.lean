/- What frame.End computes. -/
import Derived.Test.YtjebmlfcdnpepaaDoorFrameIter
set_option linter.unusedVariables false
set_option linter.unusedSimpArgs false
namespace Go.Proofs.YtjebmlfcdnpepaaDoor.frameit
open Go.RowKit Go.Shelf Go.Proofs.YtjebmlfcdnpepaaDoorW.PrintWords Go.Proofs.YtjebmlfcdnpepaaDoor.base Go.Proofs.YtjebmlfcdnpepaaDoor.mem Go.Proofs.YtjebmlfcdnpepaaDoor.crcp Go.Proofs.YtjebmlfcdnpepaaDoor.crcw Go.Proofs.YtjebmlfcdnpepaaDoor.samew Go.Proofs.YtjebmlfcdnpepaaDoor.keep Go.Proofs.YtjebmlfcdnpepaaDoor.framep Go.Proofs.YtjebmlfcdnpepaaDoor.framew
attribute [local go_sem] Oper.semAt_some

def endL (L : List (Nat × Nat)) : Nat := match L.getLast? with | none => 0 | some x => x.1 + 8 + x.2
def endOf (pre : List It) : Nat := endL (pre.map It.key)
theorem endOf_snoc (pre : List It) (x : It) : endOf (pre ++ [x]) = x.p + 8 + x.n := by simp [endOf, endL, It.key]
theorem KT.set {lo hi p : Nat} {W : World} (hw : hi ≤ W.heap.size) (hp : p < lo) (hg : p ≠ 0) (v : Value) : KT lo hi W (W.setCell ⟨p, 0, none⟩ v) :=
  ⟨(Band.refl hw).set (.inl hp) _ _, fun t i hi => by
    rw [World.cell?_setCell_other _ _ _ _ (by intro e; injection e with e; exact hg e)]
    exact t i hi, by simp [World.setCell]⟩
theorem keepsFrom_set {B : Nat} {W : World} (p : Addr) (v : Value) : KeepsFrom B W (W.setCell p v) := (KeepsOthers.setCell W p v).from B
set_option maxHeartbeats 2000000 in
set_option maxRecDepth 100000 in
theorem end_any (A : Option Addr) (n c : Nat) (xs : List Int) (w : World) (hr : RdB w A n xs) (hn : n ≤ 140737488355328) (ht : Table w) :
    Calls Tryd.prog 17 #[.slice A n c] w fun e w' => e = .returned (.int .i64 (endL (flist xs) : Nat)) ∧ Below w.heap.size w w' := by
  have HR := Lib.hid hr
  have HT := Lib.hid ht
  have hg := Table.lt ht
  have B1 := Lib.hid (below_alloc (Below.refl w.heap.size w) (.cells #[.int .i64 0] 3))
  have hs1 := B1.out.size
  have hz1 : (w.alloc (.cells #[.int .i64 0] 3)).heap.size = w.heap.size + 1 := by simp
  have p0 : (w.alloc (.cells #[.int .i64 0] 3)).cell? ⟨w.heap.size, 0, none⟩ = some (.int .i64 0) := by simp
  have r0 : (w.alloc (.cells #[.int .i64 0] 3)).frozen? ⟨w.heap.size, 0, none⟩ = false := by simp
  clear hr ht
  refine (callsIn_wide (n := 6)).1 ?_
  refine callsIn_of_wp_marks Tryd.func17 rfl trivial ?_ rfl
  simp only [Tryd.ntmps17, List.size_toArray, List.length_cons, List.length_nil, Nat.reduceAdd, Nat.reduceSub, Array.replicate_succ, Array.replicate_zero, List.push_toArray, List.append_toArray, List.nil_append, List.cons_append]
  refine wpIn_wide.2 ?_
  go_wp2_with fail
  refine (frames_any _ _ _ xs _ (HR.out.below B1.out) hn).mono ?_
  rintro e w2 ⟨Bs, rfl, hN, hb⟩
  have p2 := pw_cell_below hb p0
  have r2 : w2.frozen? ⟨w.heap.size, 0, none⟩ = false := (hb.frozen (p := ⟨w.heap.size, 0, none⟩) (by rw [hz1]; show w.heap.size < _; omega)).trans r0
  have B2 := Lib.hid (B1.out.trans (hb.mono hs1))
  have hs2 : w.heap.size + 1 ≤ w2.heap.size := by rw [← hz1]; exact hb.size
  rw [hz1] at hN
  have HNN := all_stops (6 - 1) (by decide) Bs _ _ xs w2 (Nat.le_refl _) hN (HT.out.below B2.out)
  have HT2 := Lib.hid (HT.out.below B2.out)
  clear hb hN p0 r0 hz1 hs1
  go_wp2
  refine (wpIn_wide (n := 6)).1 ?_
  refine' wpIn_rangeFunc_ownG rfl (by decide) (gf := 24) (lb := #[.pointer (some ⟨Bs, 0, none⟩)]) rfl trivial (enters_of Tryd.func24 (by kernel_rfl) rfl) HNN (fun h k => KT.trans h k) (KT.put (Nat.le_refl _) HT2.out) (Below.refl _ _) (fun _ => rfl)
    (fun pre W => ((W.cell? ⟨w.heap.size, 0, none⟩ = some (.int .i64 (endOf pre : Nat)) ∧ W.frozen? ⟨w.heap.size, 0, none⟩ = false) ∧ w2.heap.size ≤ W.heap.size) ∧ Below w.heap.size w W)
    (fun _ _ _ => False)
    (OwnFrom.and (Own.from (fun s A B row hs hg hr => ⟨⟨cell_kept hs.1.1 hg hr, (frozen_kept hs.1.1 hg hr).trans hs.1.2⟩, Nat.le_trans hs.2 hg.size⟩) _) (ownFrom_below (Nat.le_refl _) (by omega)))
    (fun _ _ _ _ _ hs _ _ => hs)
    ⟨⟨⟨p2, r2⟩, Nat.le_refl _⟩, B2.out⟩ _ ?assign ?body ?done ?stop
  case assign =>
    intro l x W K hK
    gi_wp2
    exact hK
  case body =>
    rintro l pre ⟨p, A5, n5, c5, hp, hn5⟩ W ⟨⟨⟨hc, hf⟩, hsz⟩, hB⟩ hlt
    have HE : Hid (∀ t : Int, t = (p : Int) + 8 + n5 → KeepsFrom w2.heap.size W (W.setCell ⟨w.heap.size, 0, none⟩ (.int .i64 t)) ∧ KT (w.heap.size + 1) w2.heap.size W (W.setCell ⟨w.heap.size, 0, none⟩ (.int .i64 t)) ∧ (((W.setCell ⟨w.heap.size, 0, none⟩ (.int .i64 t)).cell? ⟨w.heap.size, 0, none⟩ = some (.int .i64 (endOf (pre ++ [⟨p, A5, n5, c5, hp, hn5⟩]) : Nat)) ∧ (W.setCell ⟨w.heap.size, 0, none⟩ (.int .i64 t)).frozen? ⟨w.heap.size, 0, none⟩ = false) ∧ w2.heap.size ≤ (W.setCell ⟨w.heap.size, 0, none⟩ (.int .i64 t)).heap.size) ∧ Below w.heap.size w (W.setCell ⟨w.heap.size, 0, none⟩ (.int .i64 t))) := Lib.hid (by
      rintro t rfl
      refine ⟨keepsFrom_set _ _, KT.set hsz (by omega) (by omega) _, ⟨⟨?_, by rw [World.frozen?_setCell]; exact hf⟩, by simpa [World.setCell] using hsz⟩, hB.setCell (p := ⟨w.heap.size, 0, none⟩) (Nat.le_refl _) _⟩
      rw [endOf_snoc, World.cell?_setCell_same' _ _ _ (by rw [hc]; rfl)]
      simp)
    gi_wp2
    exact HE.out _ (by omega)
  case done =>
    rintro D ys W hD hS ⟨⟨⟨hc, hf⟩, hsz⟩, hB⟩ hK
    have HS : Hid (endOf ys = endL (flist xs)) := Lib.hid (by unfold endOf; rw [hS])
    go_wp2
    refine ⟨by simp, .inl ⟨_, _, rfl, run_takeDeferred hK, ?_⟩⟩
    exact ⟨_, results_tmp rfl _ _ _, by rw [← HS.out]; rfl, hB.trans (belowK_b (w := w) (Nat.le_refl _) W D _ _ (by omega) hK rfl rfl)⟩
  case stop =>
    rintro D c pre W _ _ h _
    exact h.elim
end Go.Proofs.YtjebmlfcdnpepaaDoor.frameit
