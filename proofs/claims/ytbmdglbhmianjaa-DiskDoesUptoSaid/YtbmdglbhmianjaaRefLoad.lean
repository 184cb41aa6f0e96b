/- The document's disk: Load, All. -/
import Derived.Test.YtbmdglbhmianjaaRefWalk
import Derived.Test.YtbmdglbhmianjaaClone
set_option linter.unusedVariables false
set_option linter.unusedSimpArgs false
namespace Go.Proofs.Ytbmdglbhmianjaa.refw
open Go.RowKit Go.Proofs.YtbmdglbhmianjaaW.PrintWords Go.Proofs.Ytbmdglbhmianjaa.base Go.Proofs.Ytbmdglbhmianjaa.mem Go.Proofs.Ytbmdglbhmianjaa.keep Go.Proofs.Ytbmdglbhmianjaa.diskp Go.Proofs.Ytbmdglbhmianjaa.diskr Go.Proofs.Ytbmdglbhmianjaa.refr Go.Proofs.Ytbmdglbhmianjaa.ordt Go.Proofs.Ytbmdglbhmianjaa.clone

def nilC : Nat → Sl := fun _ => nilS
theorem rnew_at (w : World) : RAt (w.alloc (.cells #[.slice none 0 0, .slice none 0 0, .slice none 0 0, .slice none 0 0, .bool true, .int .i64 0, .int .i64 0, .int .i64 0] 51)) w.heap.size w.heap.size nilC (diskp.load [] []) := by
  refine ⟨?_, Nat.le_refl _, fun i hi => ?_, fun i hi => (by intro e; cases e), fun i j g _ _ e => (by cases e)⟩
  · show (w.heap.push _)[w.heap.size]? = _
    rw [Array.getElem?_push_size]
    rfl
  · have : (diskp.load [] []).b i = [] := by unfold diskp.load; simp
    rw [this]
    exact OwF.of (OwB.nil _ _)
theorem load_put (xs ys : List Int) : putB (putB (diskp.load [] []) 0 xs) 2 ys = diskp.load xs ys := by
  unfold putB diskp.load
  simp only [D.mk.injEq, and_true]
  funext i
  unfold upd
  split
  · rename_i h; subst h; rfl
  · split
    · rename_i h; subst h; rfl
    · simp_all
def RetN' (w : World) (d : D) (e : Ending) (w' : World) : Prop := ∃ p cs, e = .returned (.pointer (some ⟨p, 0, none⟩)) ∧ RAt w' w.heap.size p cs d ∧ Below w.heap.size w w'
set_option maxHeartbeats 2000000 in
theorem rload_any (A : Option Addr) (n c : Nat) (xs : List Int) (A' : Option Addr) (n' c' : Nat) (ys : List Int) (w : World) (hr : RdB w A n xs) (hn : n ≤ 140737488355328) (hr' : RdB w A' n' ys) (hn' : n' ≤ 140737488355328) :
    Calls Try.prog 24 #[.slice A n c, .slice A' n' c'] w (RetN' w (diskp.load xs ys)) := by
  have HR := Lib.hid hr
  have HR' := Lib.hid hr'
  have HN := Lib.hid (rnew_at w)
  have HB := Lib.hid (below_alloc (Below.refl w.heap.size w) (.cells #[.slice none 0 0, .slice none 0 0, .slice none 0 0, .slice none 0 0, .bool true, .int .i64 0, .int .i64 0, .int .i64 0] 51))
  clear hr hr'
  go_enter Try.func24, Try.ntmps24
  go_wp2_with fail
  generalize w.alloc (.cells #[.slice none 0 0, .slice none 0 0, .slice none 0 0, .slice none 0 0, .bool true, .int .i64 0, .int .i64 0, .int .i64 0] 51) = wB at HN HB ⊢
  have DB := Lib.hid (Below.refl wB.heap.size wB).drew
  have RB := Lib.hid (Below.refl wB.drew.heap.size wB.drew)
  have HRB := Lib.hid (HR.out.below (HB.out.trans (DB.out.mono HB.out.size)))
  have hsB := HB.out.size
  refine begin_ (fun _ : World => True) [3, 7] (by kernel_rfl) ?_
  have hSw : True := trivial
  simp only [List.size_toArray, List.length_cons, List.length_nil, Nat.reduceAdd, Array.replicate_succ, Array.replicate_zero, List.push_toArray, List.append_toArray, List.nil_append, List.cons_append]
  refine move_a (i := 0) (v := ?_) rfl (by kernel_rfl) (by kernel_rfl) (by kernel_rfl) (fun _ _ _ h => h) (by rfl) ?_ ?_
  rotate_left
  · (intro w; go_simp; try with_reducible rfl)
  try simp only [Act.put, List.setIfInBounds_toArray, List.set_cons_zero, List.set_cons_succ]
  refine move_a (i := 2) (v := ?_) rfl (by kernel_rfl) (by kernel_rfl) (by kernel_rfl) (fun _ _ _ h => h) (by rfl) ?_ ?_
  rotate_left
  · (intro w; go_simp; try with_reducible rfl)
  try simp only [Act.put, List.setIfInBounds_toArray, List.set_cons_zero, List.set_cons_succ]
  refine move_a (i := 4) (v := ?_) rfl (by kernel_rfl) (by kernel_rfl) (by kernel_rfl) (fun _ _ _ h => h) (by rfl) ?_ ?_
  rotate_left
  · (intro w; go_simp; try with_reducible rfl)
  try simp only [Act.put, List.setIfInBounds_toArray, List.set_cons_zero, List.set_cons_succ]
  refine move_a (i := 5) (v := ?_) rfl (by kernel_rfl) (by kernel_rfl) (by kernel_rfl) (fun _ _ _ h => h) (by rfl) ?_ ?_
  rotate_left
  · (intro w; go_simp; try with_reducible rfl)
  try simp only [Act.put, List.setIfInBounds_toArray, List.set_cons_zero, List.set_cons_succ]
  refine move_e (i := 1) (by kernel_rfl) rfl (fun K hK => ?_)
  go_simp
  refine hK _ _ (fun hS => trivial) ?_
  clear hK K
  try simp only [Act.put, List.setIfInBounds_toArray, List.set_cons_zero, List.set_cons_succ]
  refine move_c (i := 3) (by kernel_rfl) rfl (by rfl) (fun K hK => ?_)
  (refine stepApp (w0 := wB.drew) (base := wB.drew.heap.size) rfl (.tmp 9) (.tmp 10) rfl rfl rfl (OwB.lit0 wB.drew _ (Nat.le_refl _)) (HRB.out.below (below_alloc (Below.refl _ _) _)) (RB.out.alloc (Nat.le_refl _) _) (by simp) (by omega) ?_; intro A1 n1 c1 w1 ho hb; rw [List.nil_append] at ho; have HO1 := Lib.hid ho; have HBl : Hid (Below wB.heap.size wB w1) := Lib.hid ((Below.refl wB.heap.size wB).drew.trans hb); have y1 : w1.cell? ⟨w.heap.size, 0, none⟩ = some (.slice none 0 0) := (HN.out.below HBl.out).cells.1; have z1 := (HN.out.below HBl.out).free 0; clear ho hb)
  refine hK _ _ ?_
  clear hK K
  try simp only [Act.put, List.setIfInBounds_toArray, List.set_cons_zero, List.set_cons_succ]
  refine move_a (i := 6) (v := ?_) rfl (by kernel_rfl) (by kernel_rfl) (by kernel_rfl) (fun _ _ _ h => h) (by rfl) ?_ ?_
  rotate_left
  · (intro w; go_simp; try with_reducible rfl)
  try simp only [Act.put, List.setIfInBounds_toArray, List.set_cons_zero, List.set_cons_succ]
  refine move_c (i := 7) (by kernel_rfl) rfl (by rfl) (fun K hK => ?_)
  go_simp
  refine hK _ _ ?_
  clear hK K
  try simp only [Act.put, List.setIfInBounds_toArray, List.set_cons_zero, List.set_cons_succ]
  refine move_d (by kernel_rfl) ?_
  have HF := Lib.hid (HN.out.slotN HBl.out (i := 0) (by omega) (OwF.of HO1.out))
  have HF1 : Hid (RAt (w1.setCell ⟨w.heap.size, 0, none⟩ (.slice A1 n1 c1)) w.heap.size w.heap.size (upd nilC 0 ⟨A1, n1, c1⟩) (putB (diskp.load [] []) 0 xs)) := Lib.hid HF.out.1
  have HB2 : Hid (Below w.heap.size w (w1.setCell ⟨w.heap.size, 0, none⟩ (.slice A1 n1 c1))) := Lib.hid (HB.out.trans HF.out.2.bel)
  clear y1 z1 HF
  generalize w1.setCell ⟨w.heap.size, 0, none⟩ (.slice A1 n1 c1) = w2 at HF1 HB2 ⊢
  have DB2 := Lib.hid (Below.refl w2.heap.size w2).drew
  have RB2 := Lib.hid (Below.refl w2.drew.heap.size w2.drew)
  have HRB2 := Lib.hid (HR'.out.below (HB2.out.trans (DB2.out.mono HB2.out.size)))
  have hs2 := HB2.out.size
  go_wp2_with fail
  refine begin_ (fun _ : World => True) [3, 7] (by kernel_rfl) ?_
  have hSw : True := trivial
  simp only [List.size_toArray, List.length_cons, List.length_nil, Nat.reduceAdd, Array.replicate_succ, Array.replicate_zero, List.push_toArray, List.append_toArray, List.nil_append, List.cons_append]
  refine move_a (i := 0) (v := ?_) rfl (by kernel_rfl) (by kernel_rfl) (by kernel_rfl) (fun _ _ _ h => h) (by rfl) ?_ ?_
  rotate_left
  · (intro w; go_simp; try with_reducible rfl)
  try simp only [Act.put, List.setIfInBounds_toArray, List.set_cons_zero, List.set_cons_succ]
  refine move_a (i := 2) (v := ?_) rfl (by kernel_rfl) (by kernel_rfl) (by kernel_rfl) (fun _ _ _ h => h) (by rfl) ?_ ?_
  rotate_left
  · (intro w; go_simp; try with_reducible rfl)
  try simp only [Act.put, List.setIfInBounds_toArray, List.set_cons_zero, List.set_cons_succ]
  refine move_a (i := 4) (v := ?_) rfl (by kernel_rfl) (by kernel_rfl) (by kernel_rfl) (fun _ _ _ h => h) (by rfl) ?_ ?_
  rotate_left
  · (intro w; go_simp; try with_reducible rfl)
  try simp only [Act.put, List.setIfInBounds_toArray, List.set_cons_zero, List.set_cons_succ]
  refine move_a (i := 5) (v := ?_) rfl (by kernel_rfl) (by kernel_rfl) (by kernel_rfl) (fun _ _ _ h => h) (by rfl) ?_ ?_
  rotate_left
  · (intro w; go_simp; try with_reducible rfl)
  try simp only [Act.put, List.setIfInBounds_toArray, List.set_cons_zero, List.set_cons_succ]
  refine move_e (i := 1) (by kernel_rfl) rfl (fun K hK => ?_)
  go_simp
  refine hK _ _ (fun hS => trivial) ?_
  clear hK K
  try simp only [Act.put, List.setIfInBounds_toArray, List.set_cons_zero, List.set_cons_succ]
  refine move_c (i := 3) (by kernel_rfl) rfl (by rfl) (fun K hK => ?_)
  (refine stepApp (w0 := w2.drew) (base := w2.drew.heap.size) rfl (.tmp 16) (.tmp 17) rfl rfl rfl (OwB.lit0 w2.drew _ (Nat.le_refl _)) (HRB2.out.below (below_alloc (Below.refl _ _) _)) (RB2.out.alloc (Nat.le_refl _) _) (by simp) (by omega) ?_; intro A3 n3 c3 w3 ho hb; rw [List.nil_append] at ho; have HO3 := Lib.hid ho; have HBm : Hid (Below w2.heap.size w2 w3) := Lib.hid ((Below.refl w2.heap.size w2).drew.trans hb); have y3 : w3.cell? ⟨w.heap.size, 1, none⟩ = some (.slice none 0 0) := (HF1.out.below HBm.out).cells.2.2.1; have z3 := (HF1.out.below HBm.out).free 1; clear ho hb)
  refine hK _ _ ?_
  clear hK K
  try simp only [Act.put, List.setIfInBounds_toArray, List.set_cons_zero, List.set_cons_succ]
  refine move_a (i := 6) (v := ?_) rfl (by kernel_rfl) (by kernel_rfl) (by kernel_rfl) (fun _ _ _ h => h) (by rfl) ?_ ?_
  rotate_left
  · (intro w; go_simp; try with_reducible rfl)
  try simp only [Act.put, List.setIfInBounds_toArray, List.set_cons_zero, List.set_cons_succ]
  refine move_c (i := 7) (by kernel_rfl) rfl (by rfl) (fun K hK => ?_)
  go_simp
  refine hK _ _ ?_
  clear hK K
  try simp only [Act.put, List.setIfInBounds_toArray, List.set_cons_zero, List.set_cons_succ]
  refine move_d (by kernel_rfl) ?_
  have HG := Lib.hid (HF1.out.slotN HBm.out (i := 2) (by omega) (OwF.of HO3.out))
  have HG1 : Hid (RAt (w3.setCell ⟨w.heap.size, 1, none⟩ (.slice A3 n3 c3)) w.heap.size w.heap.size (upd (upd nilC 0 ⟨A1, n1, c1⟩) 2 ⟨A3, n3, c3⟩) (diskp.load xs ys)) := Lib.hid (by have := HG.out.1; rw [load_put] at this; exact this)
  have HB3 : Hid (Below w.heap.size w (w3.setCell ⟨w.heap.size, 1, none⟩ (.slice A3 n3 c3))) := Lib.hid (HB2.out.trans HG.out.2.bel)
  clear y3 z3 HG
  go_wp2
  go_ret
  exact ⟨w.heap.size, _, rfl, HG1.out, HB3.out⟩
end Go.Proofs.Ytbmdglbhmianjaa.refw
