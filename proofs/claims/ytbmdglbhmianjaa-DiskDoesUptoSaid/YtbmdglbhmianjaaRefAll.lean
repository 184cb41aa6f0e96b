/- The document's disk: All. -/
import Derived.Test.YtbmdglbhmianjaaRefLoad
import Derived.Test.YtbmdglbhmianjaaDiskApp
set_option linter.unusedVariables false
set_option linter.unusedSimpArgs false
namespace Go.Proofs.Ytbmdglbhmianjaa.refw
open Go.RowKit Go.Proofs.YtbmdglbhmianjaaW.PrintWords Go.Proofs.Ytbmdglbhmianjaa.base Go.Proofs.Ytbmdglbhmianjaa.mem Go.Proofs.Ytbmdglbhmianjaa.keep Go.Proofs.Ytbmdglbhmianjaa.diskp Go.Proofs.Ytbmdglbhmianjaa.diskr Go.Proofs.Ytbmdglbhmianjaa.refr Go.Proofs.Ytbmdglbhmianjaa.ordt Go.Proofs.Ytbmdglbhmianjaa.clone Go.Proofs.Ytbmdglbhmianjaa.diskw

theorem OwF.below {w w1 : World} {base : Nat} {x : Sl} {ys : List Int} (h : OwF w base x ys) (hb : Below w.heap.size w w1) : OwF w1 base x ys := h.block fun g hg => hb.block g (h.blk hg).2
set_option maxHeartbeats 4000000 in
theorem rall_any {w : World} {base p : Nat} {cs : Nat → Sl} {d : D} (h : RAt w base p cs d) (hs : Small d.b) (f : Nat) (hf : f < 2) :
    Calls Try.prog 35 #[.pointer (some ⟨p, 0, none⟩), .int .i64 f] w (RetB w (fileB d f)) := by
  obtain ⟨c0, c2, c1, c3, _, _, _, _⟩ := h.cells
  match f, hf with
  | 0, _ =>
    have e0 := c0
    have e1 := c2
    clear c0 c1 c2 c3
    have RS := Lib.hid (h.row 0 (by omega)).rd
    have RW := Lib.hid (h.row 1 (by omega)).rd
    have l0 : (cs 0).n ≤ 17592186044416 := by rw [← RS.out.len]; exact hs 0 (by omega)
    have l1 : (cs 1).n ≤ 17592186044416 := by rw [← RW.out.len]; exact hs 1 (by omega)
    have HL := Lib.hid RS.out.len
    have HF : Hid (fileB d 0 = d.b 0 ++ d.b 1) := Lib.hid rfl
    have DB := Lib.hid (Below.refl w.heap.size w).drew
    have RB := Lib.hid (Below.refl w.drew.heap.size w.drew)
    clear h hs
    generalize (cs 0).A = sA at *
    generalize (cs 0).n = sn at *
    generalize (cs 0).c = sc at *
    generalize (cs 1).A = wA at *
    generalize (cs 1).n = wn at *
    generalize (cs 1).c = wc at *
    go_enter Try.func35, Try.ntmps35
    go_wp2_with fail
    refine begin_ (fun W : World => W.cell? ⟨p, 0, none⟩ = some (.slice sA sn sc) ∧ W.cell? ⟨p, 2, none⟩ = some (.slice wA wn wc)) [] (by kernel_rfl) ?_
    have hSw : (fun W : World => W.cell? ⟨p, 0, none⟩ = some (.slice sA sn sc) ∧ W.cell? ⟨p, 2, none⟩ = some (.slice wA wn wc)) w.drew := ⟨e0, e1⟩
    simp only [List.size_toArray, List.length_cons, List.length_nil, Nat.reduceAdd, Array.replicate_succ, Array.replicate_zero, List.push_toArray, List.append_toArray, List.nil_append, List.cons_append]
    refine move_a (i := 1) (v := ?_) rfl (by kernel_rfl) (by kernel_rfl) (by kernel_rfl) (fun _ _ _ h => h) (by rfl) ?_ ?_
    rotate_left
    · (intro w; go_simp; try with_reducible rfl)
    try simp only [Act.put, List.setIfInBounds_toArray, List.set_cons_zero, List.set_cons_succ]
    refine move_a (i := 2) (v := ?_) rfl (by kernel_rfl) (by kernel_rfl) (by kernel_rfl) (fun _ _ _ h => h) (by rfl) ?_ ?_
    rotate_left
    · (intro w; go_simp; try with_reducible rfl)
    try simp only [Act.put, List.setIfInBounds_toArray, List.set_cons_zero, List.set_cons_succ]
    refine move_a (i := 3) (v := ?_) rfl (by kernel_rfl) (by kernel_rfl) (by kernel_rfl) (fun _ _ _ h => h) (by rfl) ?_ ?_
    rotate_left
    · (intro w; go_simp; try with_reducible rfl)
    try simp only [Act.put, List.setIfInBounds_toArray, List.set_cons_zero, List.set_cons_succ]
    refine move_a (i := 4) (v := ?_) rfl (by kernel_rfl) (by kernel_rfl) (by kernel_rfl) (fun _ _ _ h => h) (by rfl) ?_ ?_
    rotate_left
    · (intro w; go_simp; try with_reducible rfl)
    try simp only [Act.put, List.setIfInBounds_toArray, List.set_cons_zero, List.set_cons_succ]
    refine move_a (i := 5) (v := ?_) rfl (by kernel_rfl) (by kernel_rfl) (by kernel_rfl) (fun _ _ _ h => h) (by rfl) ?_ ?_
    rotate_left
    · (intro w; go_simp; try with_reducible rfl)
    try simp only [Act.put, List.setIfInBounds_toArray, List.set_cons_zero, List.set_cons_succ]
    refine move_b [] [] (i := 6) (v := ?_) rfl (by kernel_rfl) (by kernel_rfl) (by kernel_rfl) (fun _ _ _ h => h) (by kernel_rfl) (by kernel_rfl) (by kernel_rfl) (by rfl) ?_ hSw ?_
    rotate_left
    · (intro w hSw; (try dsimp only at hSw); go_simp; try with_reducible rfl)
    try simp only [Act.put, List.setIfInBounds_toArray, List.set_cons_zero, List.set_cons_succ]
    refine move_a (i := 8) (v := ?_) rfl (by kernel_rfl) (by kernel_rfl) (by kernel_rfl) (fun _ _ _ h => h) (by rfl) ?_ ?_
    rotate_left
    · (intro w; go_simp; try with_reducible rfl)
    try simp only [Act.put, List.setIfInBounds_toArray, List.set_cons_zero, List.set_cons_succ]
    refine move_a (i := 9) (v := ?_) rfl (by kernel_rfl) (by kernel_rfl) (by kernel_rfl) (fun _ _ _ h => h) (by rfl) ?_ ?_
    rotate_left
    · (intro w; go_simp; try with_reducible rfl)
    try simp only [Act.put, List.setIfInBounds_toArray, List.set_cons_zero, List.set_cons_succ]
    refine move_a (i := 10) (v := ?_) rfl (by kernel_rfl) (by kernel_rfl) (by kernel_rfl) (fun _ _ _ h => h) (by rfl) ?_ ?_
    rotate_left
    · (intro w; go_simp; try with_reducible rfl)
    try simp only [Act.put, List.setIfInBounds_toArray, List.set_cons_zero, List.set_cons_succ]
    refine move_a (i := 11) (v := ?_) rfl (by kernel_rfl) (by kernel_rfl) (by kernel_rfl) (fun _ _ _ h => h) (by rfl) ?_ ?_
    rotate_left
    · (intro w; go_simp; try with_reducible rfl)
    try simp only [Act.put, List.setIfInBounds_toArray, List.set_cons_zero, List.set_cons_succ]
    refine move_a (i := 12) (v := ?_) rfl (by kernel_rfl) (by kernel_rfl) (by kernel_rfl) (fun _ _ _ h => h) (by rfl) ?_ ?_
    rotate_left
    · (intro w; go_simp; try with_reducible rfl)
    try simp only [Act.put, List.setIfInBounds_toArray, List.set_cons_zero, List.set_cons_succ]
    refine move_b [] [] (i := 13) (v := ?_) rfl (by kernel_rfl) (by kernel_rfl) (by kernel_rfl) (fun _ _ _ h => h) (by kernel_rfl) (by kernel_rfl) (by kernel_rfl) (by rfl) ?_ hSw ?_
    rotate_left
    · (intro w hSw; (try dsimp only at hSw); go_simp; try with_reducible rfl)
    try simp only [Act.put, List.setIfInBounds_toArray, List.set_cons_zero, List.set_cons_succ]
    refine move_e (i := 0) (by kernel_rfl) rfl (fun K hK => ?_)
    go_simp
    refine hK _ _ (fun hS => ⟨pw_cell_below (below_alloc (Below.refl _ _) _) hS.1, pw_cell_below (below_alloc (Below.refl _ _) _) hS.2⟩) ?_
    clear hK K
    try simp only [Act.put, List.setIfInBounds_toArray, List.set_cons_zero, List.set_cons_succ]
    refine move_e (i := 7) (by kernel_rfl) rfl (fun K hK => ?_)
    (refine stepApp (w0 := w.drew) (base := w.drew.heap.size) rfl (.tmp 5) (.tmp 11) rfl rfl rfl (OwB.lit0 w.drew _ (Nat.le_refl _)) (RS.out.below ((Below.refl w.heap.size w).alloc (Nat.le_refl _) _).drew) (RB.out.alloc (Nat.le_refl _) _) (by simp) (by omega) ?_; intro A1 n1 c1 w1 ho hb; rw [List.nil_append] at ho; have HO1 := Lib.hid ho; have HB1 := Lib.hid hb; have hl1 := ho.len; rw [HL.out] at hl1; have hl1a : n1 ≤ sn := Nat.le_of_eq hl1.symm; clear hl1; clear ho hb)
    refine hK _ _ (fun hS => ⟨pw_cell_below (DB.out.trans HB1.out) e0, pw_cell_below (DB.out.trans HB1.out) e1⟩) ?_
    clear hK K
    try simp only [Act.put, List.setIfInBounds_toArray, List.set_cons_zero, List.set_cons_succ]
    refine move_e (i := 14) (by kernel_rfl) rfl (fun K hK => ?_)
    (refine stepApp (w0 := w.drew) (base := w.drew.heap.size) rfl (.tmp 12) (.tmp 18) rfl rfl rfl (HO1.out) (RW.out.below (DB.out.trans HB1.out)) (HB1.out) (by exact HB1.out.size) (by omega) ?_; intro A2 n2 c2 w2 ho hb; have HO2 := Lib.hid ho; have HB2 := Lib.hid hb; clear ho hb)
    refine hK _ _ (fun hS => ⟨pw_cell_below (DB.out.trans HB2.out) e0, pw_cell_below (DB.out.trans HB2.out) e1⟩) ?_
    clear hK K
    try simp only [Act.put, List.setIfInBounds_toArray, List.set_cons_zero, List.set_cons_succ]
    refine move_a (i := 15) (v := ?_) rfl (by kernel_rfl) (by kernel_rfl) (by kernel_rfl) (fun _ _ _ h => h) (by rfl) ?_ ?_
    rotate_left
    · (intro w; go_simp; try with_reducible rfl)
    try simp only [Act.put, List.setIfInBounds_toArray, List.set_cons_zero, List.set_cons_succ]
    refine move_d (by kernel_rfl) ?_
    go_wp2
    go_ret
    exact ⟨A2, n2, c2, rfl, by rw [HF.out]; exact HO2.out, DB.out.trans HB2.out⟩
  | 1, _ =>
    have e0 := c1
    have e1 := c3
    clear c0 c1 c2 c3
    have RS := Lib.hid (h.row 2 (by omega)).rd
    have RW := Lib.hid (h.row 3 (by omega)).rd
    have l0 : (cs 2).n ≤ 17592186044416 := by rw [← RS.out.len]; exact hs 2 (by omega)
    have l1 : (cs 3).n ≤ 17592186044416 := by rw [← RW.out.len]; exact hs 3 (by omega)
    have HL := Lib.hid RS.out.len
    have HF : Hid (fileB d 1 = d.b 2 ++ d.b 3) := Lib.hid rfl
    have DB := Lib.hid (Below.refl w.heap.size w).drew
    have RB := Lib.hid (Below.refl w.drew.heap.size w.drew)
    clear h hs
    generalize (cs 2).A = sA at *
    generalize (cs 2).n = sn at *
    generalize (cs 2).c = sc at *
    generalize (cs 3).A = wA at *
    generalize (cs 3).n = wn at *
    generalize (cs 3).c = wc at *
    go_enter Try.func35, Try.ntmps35
    go_wp2_with fail
    refine begin_ (fun W : World => W.cell? ⟨p, 1, none⟩ = some (.slice sA sn sc) ∧ W.cell? ⟨p, 3, none⟩ = some (.slice wA wn wc)) [] (by kernel_rfl) ?_
    have hSw : (fun W : World => W.cell? ⟨p, 1, none⟩ = some (.slice sA sn sc) ∧ W.cell? ⟨p, 3, none⟩ = some (.slice wA wn wc)) w.drew := ⟨e0, e1⟩
    simp only [List.size_toArray, List.length_cons, List.length_nil, Nat.reduceAdd, Array.replicate_succ, Array.replicate_zero, List.push_toArray, List.append_toArray, List.nil_append, List.cons_append]
    refine move_a (i := 1) (v := ?_) rfl (by kernel_rfl) (by kernel_rfl) (by kernel_rfl) (fun _ _ _ h => h) (by rfl) ?_ ?_
    rotate_left
    · (intro w; go_simp; try with_reducible rfl)
    try simp only [Act.put, List.setIfInBounds_toArray, List.set_cons_zero, List.set_cons_succ]
    refine move_a (i := 2) (v := ?_) rfl (by kernel_rfl) (by kernel_rfl) (by kernel_rfl) (fun _ _ _ h => h) (by rfl) ?_ ?_
    rotate_left
    · (intro w; go_simp; try with_reducible rfl)
    try simp only [Act.put, List.setIfInBounds_toArray, List.set_cons_zero, List.set_cons_succ]
    refine move_a (i := 3) (v := ?_) rfl (by kernel_rfl) (by kernel_rfl) (by kernel_rfl) (fun _ _ _ h => h) (by rfl) ?_ ?_
    rotate_left
    · (intro w; go_simp; try with_reducible rfl)
    try simp only [Act.put, List.setIfInBounds_toArray, List.set_cons_zero, List.set_cons_succ]
    refine move_a (i := 4) (v := ?_) rfl (by kernel_rfl) (by kernel_rfl) (by kernel_rfl) (fun _ _ _ h => h) (by rfl) ?_ ?_
    rotate_left
    · (intro w; go_simp; try with_reducible rfl)
    try simp only [Act.put, List.setIfInBounds_toArray, List.set_cons_zero, List.set_cons_succ]
    refine move_a (i := 5) (v := ?_) rfl (by kernel_rfl) (by kernel_rfl) (by kernel_rfl) (fun _ _ _ h => h) (by rfl) ?_ ?_
    rotate_left
    · (intro w; go_simp; try with_reducible rfl)
    try simp only [Act.put, List.setIfInBounds_toArray, List.set_cons_zero, List.set_cons_succ]
    refine move_b [] [] (i := 6) (v := ?_) rfl (by kernel_rfl) (by kernel_rfl) (by kernel_rfl) (fun _ _ _ h => h) (by kernel_rfl) (by kernel_rfl) (by kernel_rfl) (by rfl) ?_ hSw ?_
    rotate_left
    · (intro w hSw; (try dsimp only at hSw); go_simp; try with_reducible rfl)
    try simp only [Act.put, List.setIfInBounds_toArray, List.set_cons_zero, List.set_cons_succ]
    refine move_a (i := 8) (v := ?_) rfl (by kernel_rfl) (by kernel_rfl) (by kernel_rfl) (fun _ _ _ h => h) (by rfl) ?_ ?_
    rotate_left
    · (intro w; go_simp; try with_reducible rfl)
    try simp only [Act.put, List.setIfInBounds_toArray, List.set_cons_zero, List.set_cons_succ]
    refine move_a (i := 9) (v := ?_) rfl (by kernel_rfl) (by kernel_rfl) (by kernel_rfl) (fun _ _ _ h => h) (by rfl) ?_ ?_
    rotate_left
    · (intro w; go_simp; try with_reducible rfl)
    try simp only [Act.put, List.setIfInBounds_toArray, List.set_cons_zero, List.set_cons_succ]
    refine move_a (i := 10) (v := ?_) rfl (by kernel_rfl) (by kernel_rfl) (by kernel_rfl) (fun _ _ _ h => h) (by rfl) ?_ ?_
    rotate_left
    · (intro w; go_simp; try with_reducible rfl)
    try simp only [Act.put, List.setIfInBounds_toArray, List.set_cons_zero, List.set_cons_succ]
    refine move_a (i := 11) (v := ?_) rfl (by kernel_rfl) (by kernel_rfl) (by kernel_rfl) (fun _ _ _ h => h) (by rfl) ?_ ?_
    rotate_left
    · (intro w; go_simp; try with_reducible rfl)
    try simp only [Act.put, List.setIfInBounds_toArray, List.set_cons_zero, List.set_cons_succ]
    refine move_a (i := 12) (v := ?_) rfl (by kernel_rfl) (by kernel_rfl) (by kernel_rfl) (fun _ _ _ h => h) (by rfl) ?_ ?_
    rotate_left
    · (intro w; go_simp; try with_reducible rfl)
    try simp only [Act.put, List.setIfInBounds_toArray, List.set_cons_zero, List.set_cons_succ]
    refine move_b [] [] (i := 13) (v := ?_) rfl (by kernel_rfl) (by kernel_rfl) (by kernel_rfl) (fun _ _ _ h => h) (by kernel_rfl) (by kernel_rfl) (by kernel_rfl) (by rfl) ?_ hSw ?_
    rotate_left
    · (intro w hSw; (try dsimp only at hSw); go_simp; try with_reducible rfl)
    try simp only [Act.put, List.setIfInBounds_toArray, List.set_cons_zero, List.set_cons_succ]
    refine move_e (i := 0) (by kernel_rfl) rfl (fun K hK => ?_)
    go_simp
    refine hK _ _ (fun hS => ⟨pw_cell_below (below_alloc (Below.refl _ _) _) hS.1, pw_cell_below (below_alloc (Below.refl _ _) _) hS.2⟩) ?_
    clear hK K
    try simp only [Act.put, List.setIfInBounds_toArray, List.set_cons_zero, List.set_cons_succ]
    refine move_e (i := 7) (by kernel_rfl) rfl (fun K hK => ?_)
    (refine stepApp (w0 := w.drew) (base := w.drew.heap.size) rfl (.tmp 5) (.tmp 11) rfl rfl rfl (OwB.lit0 w.drew _ (Nat.le_refl _)) (RS.out.below ((Below.refl w.heap.size w).alloc (Nat.le_refl _) _).drew) (RB.out.alloc (Nat.le_refl _) _) (by simp) (by omega) ?_; intro A1 n1 c1 w1 ho hb; rw [List.nil_append] at ho; have HO1 := Lib.hid ho; have HB1 := Lib.hid hb; have hl1 := ho.len; rw [HL.out] at hl1; have hl1a : n1 ≤ sn := Nat.le_of_eq hl1.symm; clear hl1; clear ho hb)
    refine hK _ _ (fun hS => ⟨pw_cell_below (DB.out.trans HB1.out) e0, pw_cell_below (DB.out.trans HB1.out) e1⟩) ?_
    clear hK K
    try simp only [Act.put, List.setIfInBounds_toArray, List.set_cons_zero, List.set_cons_succ]
    refine move_e (i := 14) (by kernel_rfl) rfl (fun K hK => ?_)
    (refine stepApp (w0 := w.drew) (base := w.drew.heap.size) rfl (.tmp 12) (.tmp 18) rfl rfl rfl (HO1.out) (RW.out.below (DB.out.trans HB1.out)) (HB1.out) (by exact HB1.out.size) (by omega) ?_; intro A2 n2 c2 w2 ho hb; have HO2 := Lib.hid ho; have HB2 := Lib.hid hb; clear ho hb)
    refine hK _ _ (fun hS => ⟨pw_cell_below (DB.out.trans HB2.out) e0, pw_cell_below (DB.out.trans HB2.out) e1⟩) ?_
    clear hK K
    try simp only [Act.put, List.setIfInBounds_toArray, List.set_cons_zero, List.set_cons_succ]
    refine move_a (i := 15) (v := ?_) rfl (by kernel_rfl) (by kernel_rfl) (by kernel_rfl) (fun _ _ _ h => h) (by rfl) ?_ ?_
    rotate_left
    · (intro w; go_simp; try with_reducible rfl)
    try simp only [Act.put, List.setIfInBounds_toArray, List.set_cons_zero, List.set_cons_succ]
    refine move_d (by kernel_rfl) ?_
    go_wp2
    go_ret
    exact ⟨A2, n2, c2, rfl, by rw [HF.out]; exact HO2.out, DB.out.trans HB2.out⟩
end Go.Proofs.Ytbmdglbhmianjaa.refw
