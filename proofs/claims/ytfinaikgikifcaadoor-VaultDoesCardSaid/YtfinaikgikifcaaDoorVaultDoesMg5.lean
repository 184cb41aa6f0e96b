/- The document's disk: Sync; and what is proved besides: see the words ahead of each part. -/
import Derived.Test.YtfinaikgikifcaaDoorVaultDoesMg4
set_option linter.unusedVariables false
set_option linter.unusedSimpArgs false
/- The document's disk: Sync. -/
namespace Go.Proofs.YtfinaikgikifcaaDoor.refw
open Go.RowKit Go.Proofs.YtfinaikgikifcaaDoorW.PrintWords Go.Proofs.YtfinaikgikifcaaDoor.base Go.Proofs.YtfinaikgikifcaaDoor.mem Go.Proofs.YtfinaikgikifcaaDoor.keep Go.Proofs.YtfinaikgikifcaaDoor.diskp Go.Proofs.YtfinaikgikifcaaDoor.diskr Go.Proofs.YtfinaikgikifcaaDoor.refr Go.Proofs.YtfinaikgikifcaaDoor.ordt Go.Proofs.YtfinaikgikifcaaDoor.clone Go.Proofs.YtfinaikgikifcaaDoor.diskw

set_option maxHeartbeats 8000000 in
theorem rsync_any {w : World} {base p : Nat} {cs : Nat → Sl} {d : D} (h : RAt w base p cs d) (hd : Fit d) (f : Int) :
    Calls Tryd.prog 42 #[.pointer (some ⟨p, 0, none⟩), .int .i64 f] w (RetF w base p cs (.int .i64 (syncR d f).2) (syncR d f).1) := by
  have H := Lib.hid h
  have e4 := h.cells.2.2.2.2.1
  have HA : Hid (syncR d f = if rdy d f ≠ 0 then (d, rdy d f) else (syncD d f.toNat, ans (rawD d).2)) := Lib.hid rfl
  by_cases hf0 : f = 0
  · subst hf0
    cases ho : d.off
    · have HA := Lib.hid (HA.out.trans (if_neg (by rw [show rdy d 0 = ans d.off from rdy0 0 (by omega), ho]; decide)))
      rw [ho] at e4
      simp only [Bool.not_false] at e4
      have HRaw := Lib.hid (rraw_any h hd.n hd.a)
      have HKK := Lib.hid (rawD_off d).2.2
      have HBB := Lib.hid (rawD_off d).2.1
      have HSM := Lib.hid hd.raw
      have HS : Hid (syncD d 0 = if (rawD d).2 then gone d else syncB (gone d) 0) := Lib.hid rfl
      have HG : Hid (gone d = if (rawD d).2 then offD (rawD d).1 d.k else (rawD d).1) := Lib.hid rfl
      clear h hd ho
      generalize (rawD d).2 = gg at HRaw HG HA HS
      generalize (rawD d).1 = d2 at HRaw HG HKK HSM HBB
      go_enter Tryd.func42, Tryd.ntmps42
      go_wp2_with fail
      refine HRaw.out.mono ?_
      rintro e w3 ⟨rfl, h3, s3⟩
      have S3 := Lib.hid s3
      cases gg
      · have e0 : w3.cell? ⟨p, 0, none⟩ = some (.slice (cs 0).A (cs 0).n (cs 0).c) := h3.cells.1
        have e1 : w3.cell? ⟨p, 2, none⟩ = some (.slice (cs 1).A (cs 1).n (cs 1).c) := h3.cells.2.1
        have RS := Lib.hid (h3.row 0 (by omega)).rd
        have RW := Lib.hid (h3.row 1 (by omega)).rd
        have HLS := Lib.hid RS.out.len
        have HLW := Lib.hid RW.out.len
        have l0 : (cs 0).n ≤ 70368744177664 := by rw [← HLS.out]; exact HSM.out 0 (by omega)
        have l1 : (cs 1).n ≤ 70368744177664 := by rw [← HLW.out]; exact HSM.out 1 (by omega)
        have H3 := Lib.hid h3
        have DB := Lib.hid (Below.refl w3.heap.size w3).drew
        have RB := Lib.hid (Below.refl w3.drew.heap.size w3.drew)
        clear h3 s3 e4
        generalize (cs 0).A = sA at *
        generalize (cs 0).n = sn at *
        generalize (cs 0).c = sc at *
        generalize (cs 1).A = wA at *
        generalize (cs 1).n = wn at *
        generalize (cs 1).c = wc at *
        go_wp2_with fail
        refine begin_ (fun W : World => W.cell? ⟨p, 0, none⟩ = some (.slice sA sn sc) ∧ W.cell? ⟨p, 2, none⟩ = some (.slice wA wn wc)) [16, 20] (by kernel_rfl) ?_
        have hSw : (fun W : World => W.cell? ⟨p, 0, none⟩ = some (.slice sA sn sc) ∧ W.cell? ⟨p, 2, none⟩ = some (.slice wA wn wc)) w3.drew := ⟨e0, e1⟩
        simp only [List.size_toArray, List.length_cons, List.length_nil, Nat.reduceAdd, Array.replicate_succ, Array.replicate_zero, List.push_toArray, List.append_toArray, List.nil_append, List.cons_append]
        refine move_a (i := 0) (v := ?_) rfl (by kernel_rfl) (by kernel_rfl) (by kernel_rfl) (fun _ _ _ h => h) (by rfl) ?_ ?_
        rotate_left
        · (intro w; go_simp; try with_reducible rfl)
        try simp only [Act.put, List.setIfInBounds_toArray, List.set_cons_zero, List.set_cons_succ]
        refine move_a (i := 1) (v := ?_) rfl (by kernel_rfl) (by kernel_rfl) (by kernel_rfl) (fun _ _ _ h => h) (by rfl) ?_ ?_
        rotate_left
        · (intro w; go_simp; try with_reducible rfl)
        try simp only [Act.put, List.setIfInBounds_toArray, List.set_cons_zero, List.set_cons_succ]
        refine move_a (i := 3) (v := ?_) rfl (by kernel_rfl) (by kernel_rfl) (by kernel_rfl) (fun _ _ _ h => h) (by rfl) ?_ ?_
        rotate_left
        · (intro w; go_simp; try with_reducible rfl)
        try simp only [Act.put, List.setIfInBounds_toArray, List.set_cons_zero, List.set_cons_succ]
        refine move_a (i := 4) (v := ?_) rfl (by kernel_rfl) (by kernel_rfl) (by kernel_rfl) (fun _ _ _ h => h) (by rfl) ?_ ?_
        rotate_left
        · (intro w; go_simp; try with_reducible rfl)
        try simp only [Act.put, List.setIfInBounds_toArray, List.set_cons_zero, List.set_cons_succ]
        refine move_a (i := 5) (v := ?_) rfl (by kernel_rfl) (by kernel_rfl) (by kernel_rfl) (fun _ _ _ h => h) (by rfl) ?_ ?_
        rotate_left
        · (intro w; go_simp; try with_reducible rfl)
        try simp only [Act.put, List.setIfInBounds_toArray, List.set_cons_zero, List.set_cons_succ]
        refine move_a (i := 6) (v := ?_) rfl (by kernel_rfl) (by kernel_rfl) (by kernel_rfl) (fun _ _ _ h => h) (by rfl) ?_ ?_
        rotate_left
        · (intro w; go_simp; try with_reducible rfl)
        try simp only [Act.put, List.setIfInBounds_toArray, List.set_cons_zero, List.set_cons_succ]
        refine move_a (i := 7) (v := ?_) rfl (by kernel_rfl) (by kernel_rfl) (by kernel_rfl) (fun _ _ _ h => h) (by rfl) ?_ ?_
        rotate_left
        · (intro w; go_simp; try with_reducible rfl)
        try simp only [Act.put, List.setIfInBounds_toArray, List.set_cons_zero, List.set_cons_succ]
        refine move_b [9, 16, 20] [16, 20] (i := 8) (v := ?_) rfl (by kernel_rfl) (by kernel_rfl) (by kernel_rfl) (fun _ _ _ h => h) (by kernel_rfl) (by kernel_rfl) (by kernel_rfl) (by rfl) ?_ hSw ?_
        rotate_left
        · (intro w hSw; (try dsimp only at hSw); go_simp; try with_reducible rfl)
        try simp only [Act.put, List.setIfInBounds_toArray, List.set_cons_zero, List.set_cons_succ]
        refine move_a (i := 10) (v := ?_) rfl (by kernel_rfl) (by kernel_rfl) (by kernel_rfl) (fun _ _ _ h => h) (by rfl) ?_ ?_
        rotate_left
        · (intro w; go_simp; try with_reducible rfl)
        try simp only [Act.put, List.setIfInBounds_toArray, List.set_cons_zero, List.set_cons_succ]
        refine move_a (i := 11) (v := ?_) rfl (by kernel_rfl) (by kernel_rfl) (by kernel_rfl) (fun _ _ _ h => h) (by rfl) ?_ ?_
        rotate_left
        · (intro w; go_simp; try with_reducible rfl)
        try simp only [Act.put, List.setIfInBounds_toArray, List.set_cons_zero, List.set_cons_succ]
        refine move_a (i := 12) (v := ?_) rfl (by kernel_rfl) (by kernel_rfl) (by kernel_rfl) (fun _ _ _ h => h) (by rfl) ?_ ?_
        rotate_left
        · (intro w; go_simp; try with_reducible rfl)
        try simp only [Act.put, List.setIfInBounds_toArray, List.set_cons_zero, List.set_cons_succ]
        refine move_a (i := 13) (v := ?_) rfl (by kernel_rfl) (by kernel_rfl) (by kernel_rfl) (fun _ _ _ h => h) (by rfl) ?_ ?_
        rotate_left
        · (intro w; go_simp; try with_reducible rfl)
        try simp only [Act.put, List.setIfInBounds_toArray, List.set_cons_zero, List.set_cons_succ]
        refine move_a (i := 14) (v := ?_) rfl (by kernel_rfl) (by kernel_rfl) (by kernel_rfl) (fun _ _ _ h => h) (by rfl) ?_ ?_
        rotate_left
        · (intro w; go_simp; try with_reducible rfl)
        try simp only [Act.put, List.setIfInBounds_toArray, List.set_cons_zero, List.set_cons_succ]
        refine move_b [16, 20] [16, 20] (i := 15) (v := ?_) rfl (by kernel_rfl) (by kernel_rfl) (by kernel_rfl) (fun _ _ _ h => h) (by kernel_rfl) (by kernel_rfl) (by kernel_rfl) (by rfl) ?_ hSw ?_
        rotate_left
        · (intro w hSw; (try dsimp only at hSw); go_simp; try with_reducible rfl)
        try simp only [Act.put, List.setIfInBounds_toArray, List.set_cons_zero, List.set_cons_succ]
        refine move_a (i := 17) (v := ?_) rfl (by kernel_rfl) (by kernel_rfl) (by kernel_rfl) (fun _ _ _ h => h) (by rfl) ?_ ?_
        rotate_left
        · (intro w; go_simp; try with_reducible rfl)
        try simp only [Act.put, List.setIfInBounds_toArray, List.set_cons_zero, List.set_cons_succ]
        refine move_a (i := 18) (v := ?_) rfl (by kernel_rfl) (by kernel_rfl) (by kernel_rfl) (fun _ _ _ h => h) (by rfl) ?_ ?_
        rotate_left
        · (intro w; go_simp; try with_reducible rfl)
        try simp only [Act.put, List.setIfInBounds_toArray, List.set_cons_zero, List.set_cons_succ]
        refine move_e (i := 2) (by kernel_rfl) rfl (fun K hK => ?_)
        go_simp
        refine hK _ _ (fun hS => ⟨pw_cell_below (below_alloc (Below.refl _ _) _) hS.1, pw_cell_below (below_alloc (Below.refl _ _) _) hS.2⟩) ?_
        clear hK K
        try simp only [Act.put, List.setIfInBounds_toArray, List.set_cons_zero, List.set_cons_succ]
        refine move_e (i := 9) (by kernel_rfl) rfl (fun K hK => ?_)
        (refine stepApp (w0 := w3.drew) (base := w3.drew.heap.size) rfl (.tmp 26) (.tmp 32) rfl rfl rfl (OwB.lit0 w3.drew _ (Nat.le_refl _)) (RS.out.below ((Below.refl w3.heap.size w3).alloc (Nat.le_refl _) _).drew) (RB.out.alloc (Nat.le_refl _) _) (by simp) (by omega) ?_; intro A1 n1 c1 w1 ho hb; rw [List.nil_append] at ho; have hl1 := ho.len; rw [HLS.out] at hl1; have hl1a : n1 ≤ sn := Nat.le_of_eq hl1.symm; clear hl1; have HO1 := Lib.hid ho; have HB1 := Lib.hid hb; clear ho hb)
        refine hK _ _ (fun hS => ⟨pw_cell_below (DB.out.trans HB1.out) e0, pw_cell_below (DB.out.trans HB1.out) e1⟩) ?_
        clear hK K
        try simp only [Act.put, List.setIfInBounds_toArray, List.set_cons_zero, List.set_cons_succ]
        refine move_c (i := 16) (by kernel_rfl) rfl (by rfl) (fun K hK => ?_)
        (refine stepApp (w0 := w3.drew) (base := w3.drew.heap.size) rfl (.tmp 33) (.tmp 39) rfl rfl rfl HO1.out (RW.out.below (DB.out.trans HB1.out)) HB1.out HB1.out.size (by omega) ?_; intro A2 n2 c2 w2 ho hb; have HO2 := Lib.hid ho; have HB2 : Hid (Below w3.heap.size w3 w2) := Lib.hid (DB.out.trans hb); have y0 : w2.cell? ⟨p, 0, none⟩ = some (.slice sA sn sc) := pw_cell_below HB2.out e0; have z0 := (H3.out.below HB2.out).free 0; clear ho hb)
        refine hK _ _ ?_
        clear hK K
        try simp only [Act.put, List.setIfInBounds_toArray, List.set_cons_zero, List.set_cons_succ]
        refine move_a (i := 19) (v := ?_) rfl (by kernel_rfl) (by kernel_rfl) (by kernel_rfl) (fun _ _ _ h => h) (by rfl) ?_ ?_
        rotate_left
        · (intro w; go_simp; try with_reducible rfl)
        try simp only [Act.put, List.setIfInBounds_toArray, List.set_cons_zero, List.set_cons_succ]
        refine move_c (i := 20) (by kernel_rfl) rfl (by rfl) (fun K hK => ?_)
        go_simp
        refine hK _ _ ?_
        clear hK K
        try simp only [Act.put, List.setIfInBounds_toArray, List.set_cons_zero, List.set_cons_succ]
        refine move_d (by kernel_rfl) ?_
        have HF := Lib.hid (H3.out.slotN HB2.out (i := 0) (x := ⟨A2, n2, c2⟩) (by omega) (OwF.of HO2.out))
        have HF1 : Hid (RAt (w2.setCell ⟨p, 0, none⟩ (.slice A2 n2 c2)) base p (upd cs 0 ⟨A2, n2, c2⟩) (putB d2 0 (d2.b 0 ++ d2.b 1))) := Lib.hid HF.out.1
        have HF2 : Hid (DStep w3 base p cs (w2.setCell ⟨p, 0, none⟩ (.slice A2 n2 c2)) (upd cs 0 ⟨A2, n2, c2⟩)) := Lib.hid HF.out.2
        clear y0 z0 e0 e1 HF
        generalize w2.setCell ⟨p, 0, none⟩ (.slice A2 n2 c2) = w4 at HF1 HF2 ⊢
        have c4 := HF1.out.cells.2.1
        have f4 := HF1.out.free 2
        have HG2 := Lib.hid (HF1.out.slot (w1 := w4) (i := 1) (x := nilS) (ys := []) (by omega) (grownBy_self _ _) (OwF.of (OwB.nil _ _)) (fun g e => by cases e))
        have HG3 : Hid (RAt (w4.setCell ⟨p, 2, none⟩ (.slice none 0 0)) base p (upd (upd cs 0 ⟨A2, n2, c2⟩) 1 nilS) (syncB d2 0)) := Lib.hid HG2.out.1
        have HG4 : Hid (DStep w4 base p (upd cs 0 ⟨A2, n2, c2⟩) (w4.setCell ⟨p, 2, none⟩ (.slice none 0 0)) (upd (upd cs 0 ⟨A2, n2, c2⟩) 1 nilS)) := Lib.hid HG2.out.2
        clear HG2
        go_wp2
        go_ret
        refine ⟨by rw [HA.out]; rfl, _, ?_, S3.out.trans (HF2.out.trans HG4.out)⟩
        rw [HA.out]
        show RAt _ _ _ _ (syncD d 0)
        rw [HS.out, HG.out]
        exact HG3.out
      · have e7 := h3.cells.2.2.2.2.2.2.2
        rw [HKK.out] at e7
        have HO := Lib.hid (roff_any h3 HSM.out d.k)
        clear h3 s3
        go_wp2_with fail
        refine HO.out.mono ?_
        rintro e w4 hret
        have HRt := Lib.hid (RetF.from S3.out hret)
        clear hret
        obtain ⟨rfl, cs4, h4, s4⟩ := HRt.out
        go_wp2
        go_ret
        refine ⟨by rw [HA.out]; rfl, cs4, ?_, s4⟩
        rw [HA.out]
        show RAt _ _ _ _ (syncD d 0)
        rw [HS.out, HG.out]
        exact h4
    · have HA := Lib.hid (HA.out.trans (if_pos (by rw [show rdy d 0 = ans d.off from rdy0 0 (by omega), ho]; decide)))
      rw [show rdy d 0 = 40 from by rw [show rdy d 0 = ans d.off from rdy0 0 (by omega), ho]; rfl] at HA
      rw [ho] at e4
      simp only [Bool.not_true] at e4
      clear h hd ho
      go_enter Tryd.func42, Tryd.ntmps42
      go_wp2
      go_ret
      exact ⟨by rw [HA.out]; rfl, cs, by rw [HA.out]; exact H.out, DStep.refl _ _ _ _⟩
  · by_cases hf1 : f = 1
    · subst hf1
      cases ho : d.off
      · have HA := Lib.hid (HA.out.trans (if_neg (by rw [show rdy d 1 = ans d.off from rdy0 1 (by omega), ho]; decide)))
        rw [ho] at e4
        simp only [Bool.not_false] at e4
        have HRaw := Lib.hid (rraw_any h hd.n hd.a)
        have HKK := Lib.hid (rawD_off d).2.2
        have HBB := Lib.hid (rawD_off d).2.1
        have HSM := Lib.hid hd.raw
        have HS : Hid (syncD d 1 = if (rawD d).2 then gone d else syncB (gone d) 1) := Lib.hid rfl
        have HG : Hid (gone d = if (rawD d).2 then offD (rawD d).1 d.k else (rawD d).1) := Lib.hid rfl
        clear h hd ho
        generalize (rawD d).2 = gg at HRaw HG HA HS
        generalize (rawD d).1 = d2 at HRaw HG HKK HSM HBB
        go_enter Tryd.func42, Tryd.ntmps42
        go_wp2_with fail
        refine HRaw.out.mono ?_
        rintro e w3 ⟨rfl, h3, s3⟩
        have S3 := Lib.hid s3
        cases gg
        · have e0 : w3.cell? ⟨p, 1, none⟩ = some (.slice (cs 2).A (cs 2).n (cs 2).c) := h3.cells.2.2.1
          have e1 : w3.cell? ⟨p, 3, none⟩ = some (.slice (cs 3).A (cs 3).n (cs 3).c) := h3.cells.2.2.2.1
          have RS := Lib.hid (h3.row 2 (by omega)).rd
          have RW := Lib.hid (h3.row 3 (by omega)).rd
          have HLS := Lib.hid RS.out.len
          have HLW := Lib.hid RW.out.len
          have l0 : (cs 2).n ≤ 70368744177664 := by rw [← HLS.out]; exact HSM.out 2 (by omega)
          have l1 : (cs 3).n ≤ 70368744177664 := by rw [← HLW.out]; exact HSM.out 3 (by omega)
          have H3 := Lib.hid h3
          have DB := Lib.hid (Below.refl w3.heap.size w3).drew
          have RB := Lib.hid (Below.refl w3.drew.heap.size w3.drew)
          clear h3 s3 e4
          generalize (cs 2).A = sA at *
          generalize (cs 2).n = sn at *
          generalize (cs 2).c = sc at *
          generalize (cs 3).A = wA at *
          generalize (cs 3).n = wn at *
          generalize (cs 3).c = wc at *
          go_wp2_with fail
          refine begin_ (fun W : World => W.cell? ⟨p, 1, none⟩ = some (.slice sA sn sc) ∧ W.cell? ⟨p, 3, none⟩ = some (.slice wA wn wc)) [16, 20] (by kernel_rfl) ?_
          have hSw : (fun W : World => W.cell? ⟨p, 1, none⟩ = some (.slice sA sn sc) ∧ W.cell? ⟨p, 3, none⟩ = some (.slice wA wn wc)) w3.drew := ⟨e0, e1⟩
          simp only [List.size_toArray, List.length_cons, List.length_nil, Nat.reduceAdd, Array.replicate_succ, Array.replicate_zero, List.push_toArray, List.append_toArray, List.nil_append, List.cons_append]
          refine move_a (i := 0) (v := ?_) rfl (by kernel_rfl) (by kernel_rfl) (by kernel_rfl) (fun _ _ _ h => h) (by rfl) ?_ ?_
          rotate_left
          · (intro w; go_simp; try with_reducible rfl)
          try simp only [Act.put, List.setIfInBounds_toArray, List.set_cons_zero, List.set_cons_succ]
          refine move_a (i := 1) (v := ?_) rfl (by kernel_rfl) (by kernel_rfl) (by kernel_rfl) (fun _ _ _ h => h) (by rfl) ?_ ?_
          rotate_left
          · (intro w; go_simp; try with_reducible rfl)
          try simp only [Act.put, List.setIfInBounds_toArray, List.set_cons_zero, List.set_cons_succ]
          refine move_a (i := 3) (v := ?_) rfl (by kernel_rfl) (by kernel_rfl) (by kernel_rfl) (fun _ _ _ h => h) (by rfl) ?_ ?_
          rotate_left
          · (intro w; go_simp; try with_reducible rfl)
          try simp only [Act.put, List.setIfInBounds_toArray, List.set_cons_zero, List.set_cons_succ]
          refine move_a (i := 4) (v := ?_) rfl (by kernel_rfl) (by kernel_rfl) (by kernel_rfl) (fun _ _ _ h => h) (by rfl) ?_ ?_
          rotate_left
          · (intro w; go_simp; try with_reducible rfl)
          try simp only [Act.put, List.setIfInBounds_toArray, List.set_cons_zero, List.set_cons_succ]
          refine move_a (i := 5) (v := ?_) rfl (by kernel_rfl) (by kernel_rfl) (by kernel_rfl) (fun _ _ _ h => h) (by rfl) ?_ ?_
          rotate_left
          · (intro w; go_simp; try with_reducible rfl)
          try simp only [Act.put, List.setIfInBounds_toArray, List.set_cons_zero, List.set_cons_succ]
          refine move_a (i := 6) (v := ?_) rfl (by kernel_rfl) (by kernel_rfl) (by kernel_rfl) (fun _ _ _ h => h) (by rfl) ?_ ?_
          rotate_left
          · (intro w; go_simp; try with_reducible rfl)
          try simp only [Act.put, List.setIfInBounds_toArray, List.set_cons_zero, List.set_cons_succ]
          refine move_a (i := 7) (v := ?_) rfl (by kernel_rfl) (by kernel_rfl) (by kernel_rfl) (fun _ _ _ h => h) (by rfl) ?_ ?_
          rotate_left
          · (intro w; go_simp; try with_reducible rfl)
          try simp only [Act.put, List.setIfInBounds_toArray, List.set_cons_zero, List.set_cons_succ]
          refine move_b [9, 16, 20] [16, 20] (i := 8) (v := ?_) rfl (by kernel_rfl) (by kernel_rfl) (by kernel_rfl) (fun _ _ _ h => h) (by kernel_rfl) (by kernel_rfl) (by kernel_rfl) (by rfl) ?_ hSw ?_
          rotate_left
          · (intro w hSw; (try dsimp only at hSw); go_simp; try with_reducible rfl)
          try simp only [Act.put, List.setIfInBounds_toArray, List.set_cons_zero, List.set_cons_succ]
          refine move_a (i := 10) (v := ?_) rfl (by kernel_rfl) (by kernel_rfl) (by kernel_rfl) (fun _ _ _ h => h) (by rfl) ?_ ?_
          rotate_left
          · (intro w; go_simp; try with_reducible rfl)
          try simp only [Act.put, List.setIfInBounds_toArray, List.set_cons_zero, List.set_cons_succ]
          refine move_a (i := 11) (v := ?_) rfl (by kernel_rfl) (by kernel_rfl) (by kernel_rfl) (fun _ _ _ h => h) (by rfl) ?_ ?_
          rotate_left
          · (intro w; go_simp; try with_reducible rfl)
          try simp only [Act.put, List.setIfInBounds_toArray, List.set_cons_zero, List.set_cons_succ]
          refine move_a (i := 12) (v := ?_) rfl (by kernel_rfl) (by kernel_rfl) (by kernel_rfl) (fun _ _ _ h => h) (by rfl) ?_ ?_
          rotate_left
          · (intro w; go_simp; try with_reducible rfl)
          try simp only [Act.put, List.setIfInBounds_toArray, List.set_cons_zero, List.set_cons_succ]
          refine move_a (i := 13) (v := ?_) rfl (by kernel_rfl) (by kernel_rfl) (by kernel_rfl) (fun _ _ _ h => h) (by rfl) ?_ ?_
          rotate_left
          · (intro w; go_simp; try with_reducible rfl)
          try simp only [Act.put, List.setIfInBounds_toArray, List.set_cons_zero, List.set_cons_succ]
          refine move_a (i := 14) (v := ?_) rfl (by kernel_rfl) (by kernel_rfl) (by kernel_rfl) (fun _ _ _ h => h) (by rfl) ?_ ?_
          rotate_left
          · (intro w; go_simp; try with_reducible rfl)
          try simp only [Act.put, List.setIfInBounds_toArray, List.set_cons_zero, List.set_cons_succ]
          refine move_b [16, 20] [16, 20] (i := 15) (v := ?_) rfl (by kernel_rfl) (by kernel_rfl) (by kernel_rfl) (fun _ _ _ h => h) (by kernel_rfl) (by kernel_rfl) (by kernel_rfl) (by rfl) ?_ hSw ?_
          rotate_left
          · (intro w hSw; (try dsimp only at hSw); go_simp; try with_reducible rfl)
          try simp only [Act.put, List.setIfInBounds_toArray, List.set_cons_zero, List.set_cons_succ]
          refine move_a (i := 17) (v := ?_) rfl (by kernel_rfl) (by kernel_rfl) (by kernel_rfl) (fun _ _ _ h => h) (by rfl) ?_ ?_
          rotate_left
          · (intro w; go_simp; try with_reducible rfl)
          try simp only [Act.put, List.setIfInBounds_toArray, List.set_cons_zero, List.set_cons_succ]
          refine move_a (i := 18) (v := ?_) rfl (by kernel_rfl) (by kernel_rfl) (by kernel_rfl) (fun _ _ _ h => h) (by rfl) ?_ ?_
          rotate_left
          · (intro w; go_simp; try with_reducible rfl)
          try simp only [Act.put, List.setIfInBounds_toArray, List.set_cons_zero, List.set_cons_succ]
          refine move_e (i := 2) (by kernel_rfl) rfl (fun K hK => ?_)
          go_simp
          refine hK _ _ (fun hS => ⟨pw_cell_below (below_alloc (Below.refl _ _) _) hS.1, pw_cell_below (below_alloc (Below.refl _ _) _) hS.2⟩) ?_
          clear hK K
          try simp only [Act.put, List.setIfInBounds_toArray, List.set_cons_zero, List.set_cons_succ]
          refine move_e (i := 9) (by kernel_rfl) rfl (fun K hK => ?_)
          (refine stepApp (w0 := w3.drew) (base := w3.drew.heap.size) rfl (.tmp 26) (.tmp 32) rfl rfl rfl (OwB.lit0 w3.drew _ (Nat.le_refl _)) (RS.out.below ((Below.refl w3.heap.size w3).alloc (Nat.le_refl _) _).drew) (RB.out.alloc (Nat.le_refl _) _) (by simp) (by omega) ?_; intro A1 n1 c1 w1 ho hb; rw [List.nil_append] at ho; have hl1 := ho.len; rw [HLS.out] at hl1; have hl1a : n1 ≤ sn := Nat.le_of_eq hl1.symm; clear hl1; have HO1 := Lib.hid ho; have HB1 := Lib.hid hb; clear ho hb)
          refine hK _ _ (fun hS => ⟨pw_cell_below (DB.out.trans HB1.out) e0, pw_cell_below (DB.out.trans HB1.out) e1⟩) ?_
          clear hK K
          try simp only [Act.put, List.setIfInBounds_toArray, List.set_cons_zero, List.set_cons_succ]
          refine move_c (i := 16) (by kernel_rfl) rfl (by rfl) (fun K hK => ?_)
          (refine stepApp (w0 := w3.drew) (base := w3.drew.heap.size) rfl (.tmp 33) (.tmp 39) rfl rfl rfl HO1.out (RW.out.below (DB.out.trans HB1.out)) HB1.out HB1.out.size (by omega) ?_; intro A2 n2 c2 w2 ho hb; have HO2 := Lib.hid ho; have HB2 : Hid (Below w3.heap.size w3 w2) := Lib.hid (DB.out.trans hb); have y0 : w2.cell? ⟨p, 1, none⟩ = some (.slice sA sn sc) := pw_cell_below HB2.out e0; have z0 := (H3.out.below HB2.out).free 1; clear ho hb)
          refine hK _ _ ?_
          clear hK K
          try simp only [Act.put, List.setIfInBounds_toArray, List.set_cons_zero, List.set_cons_succ]
          refine move_a (i := 19) (v := ?_) rfl (by kernel_rfl) (by kernel_rfl) (by kernel_rfl) (fun _ _ _ h => h) (by rfl) ?_ ?_
          rotate_left
          · (intro w; go_simp; try with_reducible rfl)
          try simp only [Act.put, List.setIfInBounds_toArray, List.set_cons_zero, List.set_cons_succ]
          refine move_c (i := 20) (by kernel_rfl) rfl (by rfl) (fun K hK => ?_)
          go_simp
          refine hK _ _ ?_
          clear hK K
          try simp only [Act.put, List.setIfInBounds_toArray, List.set_cons_zero, List.set_cons_succ]
          refine move_d (by kernel_rfl) ?_
          have HF := Lib.hid (H3.out.slotN HB2.out (i := 2) (x := ⟨A2, n2, c2⟩) (by omega) (OwF.of HO2.out))
          have HF1 : Hid (RAt (w2.setCell ⟨p, 1, none⟩ (.slice A2 n2 c2)) base p (upd cs 2 ⟨A2, n2, c2⟩) (putB d2 2 (d2.b 2 ++ d2.b 3))) := Lib.hid HF.out.1
          have HF2 : Hid (DStep w3 base p cs (w2.setCell ⟨p, 1, none⟩ (.slice A2 n2 c2)) (upd cs 2 ⟨A2, n2, c2⟩)) := Lib.hid HF.out.2
          clear y0 z0 e0 e1 HF
          generalize w2.setCell ⟨p, 1, none⟩ (.slice A2 n2 c2) = w4 at HF1 HF2 ⊢
          have c4 := HF1.out.cells.2.2.2.1
          have f4 := HF1.out.free 3
          have HG2 := Lib.hid (HF1.out.slot (w1 := w4) (i := 3) (x := nilS) (ys := []) (by omega) (grownBy_self _ _) (OwF.of (OwB.nil _ _)) (fun g e => by cases e))
          have HG3 : Hid (RAt (w4.setCell ⟨p, 3, none⟩ (.slice none 0 0)) base p (upd (upd cs 2 ⟨A2, n2, c2⟩) 3 nilS) (syncB d2 1)) := Lib.hid HG2.out.1
          have HG4 : Hid (DStep w4 base p (upd cs 2 ⟨A2, n2, c2⟩) (w4.setCell ⟨p, 3, none⟩ (.slice none 0 0)) (upd (upd cs 2 ⟨A2, n2, c2⟩) 3 nilS)) := Lib.hid HG2.out.2
          clear HG2
          go_wp2
          go_ret
          refine ⟨by rw [HA.out]; rfl, _, ?_, S3.out.trans (HF2.out.trans HG4.out)⟩
          rw [HA.out]
          show RAt _ _ _ _ (syncD d 1)
          rw [HS.out, HG.out]
          exact HG3.out
        · have e7 := h3.cells.2.2.2.2.2.2.2
          rw [HKK.out] at e7
          have HO := Lib.hid (roff_any h3 HSM.out d.k)
          clear h3 s3
          go_wp2_with fail
          refine HO.out.mono ?_
          rintro e w4 hret
          have HRt := Lib.hid (RetF.from S3.out hret)
          clear hret
          obtain ⟨rfl, cs4, h4, s4⟩ := HRt.out
          go_wp2
          go_ret
          refine ⟨by rw [HA.out]; rfl, cs4, ?_, s4⟩
          rw [HA.out]
          show RAt _ _ _ _ (syncD d 1)
          rw [HS.out, HG.out]
          exact h4
      · have HA := Lib.hid (HA.out.trans (if_pos (by rw [show rdy d 1 = ans d.off from rdy0 1 (by omega), ho]; decide)))
        rw [show rdy d 1 = 40 from by rw [show rdy d 1 = ans d.off from rdy0 1 (by omega), ho]; rfl] at HA
        rw [ho] at e4
        simp only [Bool.not_true] at e4
        clear h hd ho
        go_enter Tryd.func42, Tryd.ntmps42
        go_wp2
        go_ret
        exact ⟨by rw [HA.out]; rfl, cs, by rw [HA.out]; exact H.out, DStep.refl _ _ _ _⟩
    · have HA := Lib.hid (HA.out.trans (if_pos (by rw [rdy_bad hf0 hf1]; decide)))
      rw [rdy_bad hf0 hf1] at HA
      have hb0 : (f != 0) = true := by simp [hf0]
      have hb1 : (f != 1) = true := by simp [hf1]
      clear h hd hf0 hf1 e4
      go_enter Tryd.func42, Tryd.ntmps42
      go_wp2
      go_ret
      exact ⟨by rw [HA.out]; rfl, cs, by rw [HA.out]; exact H.out, DStep.refl _ _ _ _⟩
end Go.Proofs.YtfinaikgikifcaaDoor.refw
/- The document's disk: Truncate. -/
namespace Go.Proofs.YtfinaikgikifcaaDoor.refw
open Go.RowKit Go.Proofs.YtfinaikgikifcaaDoorW.PrintWords Go.Proofs.YtfinaikgikifcaaDoor.base Go.Proofs.YtfinaikgikifcaaDoor.mem Go.Proofs.YtfinaikgikifcaaDoor.keep Go.Proofs.YtfinaikgikifcaaDoor.diskp Go.Proofs.YtfinaikgikifcaaDoor.diskr Go.Proofs.YtfinaikgikifcaaDoor.refr Go.Proofs.YtfinaikgikifcaaDoor.ordt Go.Proofs.YtfinaikgikifcaaDoor.clone Go.Proofs.YtfinaikgikifcaaDoor.diskw

/-- a slot is given memory that came behind w -/
theorem slot_later {w w1 : World} {base p : Nat} {cs cs1 : Nat → Sl} {d : D} (s : DStep w base p cs w1 cs1) (h : RAt w1 base p cs1 d) {i : Nat} (hi : i < 4) {x : Sl} {ys : List Int} (hx : OwF w1 base x ys) (ho : ∀ g, x.own = some g → ¬ Ft p cs1 g ∧ w.heap.size ≤ g) :
    RAt (w1.setCell ⟨p, pos i, none⟩ x.val) base p (upd cs1 i x) (putB d i ys) ∧ DStep w base p cs (w1.setCell ⟨p, pos i, none⟩ x.val) (upd cs1 i x) := by
  refine ⟨h.slotF hi hx (fun g hg => (ho g hg).1), ⟨⟨by simpa [World.setCell] using s.keep.1, fun g hg hl => ?_⟩, fun g hg => ?_, s.bel.setCell (p := ⟨p, pos i, none⟩) h.hp _⟩⟩
  · rw [Below.heap_setCell _ _ _ _ (show g ≠ p from fun e => hg (.inl e))]
    exact s.keep.2 g hg hl
  · rcases hg with e | ⟨j, hj, e⟩
    · exact .inl (.inl e)
    · by_cases hji : j = i
      · subst hji
        rw [upd_same] at e
        exact .inr (ho g e).2
      · rw [upd_ne _ _ hji] at e
        exact s.foot g (.inr ⟨j, hj, e⟩)
theorem own_apartF {w w1 : World} {base p B n c : Nat} {cs cs' : Nat → Sl} {A : Option Addr} {xs : List Int} (h : OwB w B A n c xs) (hB : ∀ g, (Value.slice A n c).ownBlock = some g → ¬ Ft p cs g) (s : DStep w base p cs w1 cs') : OwB w1 B A n c xs := by
  refine ⟨⟨h.1.1, ?_⟩, h.2⟩
  rcases h.1.2 with hv | ⟨g, cap, cur, hv, h1, h2, h3⟩
  · exact .inl hv
  · refine .inr ⟨g, cap, cur, hv, h1, ?_, h3⟩
    rw [s.keep.2 g (hB g (by rw [hv]; rfl)) (Array.getElem?_eq_some_iff.1 h2).1]
    exact h2
theorem cut_short {d : D} (f N : Nat) (hf : f < 2) (h : N ≤ (d.b (2 * f)).length) : cutB d f N = putB (putB d (2 * f) ((d.b (2 * f) ++ d.b (2 * f + 1)).take N)) (2 * f + 1) [] := by
  unfold cutB putB
  have e1 : N - (d.b (2 * f)).length = 0 := by omega
  rw [e1, List.take_append_of_le_length h]
  simp only [D.mk.injEq, and_true]
  funext q
  unfold upd
  by_cases h1 : q = 2 * f
  · rw [if_pos h1, if_neg (by omega), if_pos h1]
  · rw [if_neg h1]
    by_cases h2 : q = 2 * f + 1
    · rw [if_pos h2, if_pos h2]; simp
    · rw [if_neg h2, if_neg h2, if_neg h1]
theorem cut_long {d : D} (f N : Nat) (h : (d.b (2 * f)).length ≤ N) : cutB d f N = putB d (2 * f + 1) (((d.b (2 * f) ++ d.b (2 * f + 1)).take N).drop (d.b (2 * f)).length) := by
  unfold cutB putB
  have e1 : (d.b (2 * f)).take N = d.b (2 * f) := List.take_of_length_le h
  have e2 : ((d.b (2 * f) ++ d.b (2 * f + 1)).take N).drop (d.b (2 * f)).length = (d.b (2 * f + 1)).take (N - (d.b (2 * f)).length) := by
    rw [List.take_append, List.drop_append]
    rw [e1]
    simp
  rw [e1, e2]
  simp only [D.mk.injEq, and_true]
  funext q
  unfold upd
  by_cases h1 : q = 2 * f
  · rw [if_pos h1, if_neg (by omega), h1]
  · rw [if_neg h1]
set_option maxHeartbeats 8000000 in
theorem rtrunc_any {w : World} {base p : Nat} {cs : Nat → Sl} {d : D} (h : RAt w base p cs d) (hd : Fit d) (f n : Int) (hn : -9223372036854775808 ≤ n ∧ n ≤ 9223372036854775807) :
    Calls Tryd.prog 44 #[.pointer (some ⟨p, 0, none⟩), .int .i64 f, .int .i64 n] w (RetF w base p cs (.int .i64 (cutR d f n).2) (cutR d f n).1) := by
  have H := Lib.hid h
  have HA : Hid (cutR d f n = if rdy d f = 1 then (d, 1) else if n < 0 ∨ ((fileB d f.toNat).length : Int) < n then (d, 1) else if rdy d f ≠ 0 then (d, rdy d f) else (cutD d f.toNat n.toNat, ans (rawD d).2)) := Lib.hid rfl
  by_cases hf0 : f = 0
  · subst hf0
    have HA := Lib.hid (HA.out.trans (if_neg (by rw [show rdy d 0 = ans d.off from rdy0 0 (by omega)]; unfold ans; split <;> decide)))
    have CAL := Lib.hid (rall_any h hd.b 0 (by omega))
    have hfl : (fileB d 0).length = (d.b 0).length + (d.b 1).length := by unfold fileB; rw [List.length_append]
    have hb0 := hd.b 0 (by omega)
    have hb1 := hd.b 1 (by omega)
    have HD := Lib.hid hd
    have HFT : Hid (∀ g, Ft p cs g → g < w.heap.size) := Lib.hid fun g hg => (h.ft hg).2
    have hbase := h.base_le
    clear h hd
    go_enter Tryd.func44, Tryd.ntmps44
    go_wp2_with fail
    refine CAL.out.mono ?_
    rintro e w1 ⟨A1, n1, c1, rfl, ho, hb⟩
    have HAL := Lib.hid ho
    have HB1 := Lib.hid hb
    have H1 := Lib.hid (H.out.below hb)
    have hl1 := ho.len
    have hc1 := ho.cap
    have HFL : Hid (fileB d 0 = d.b 0 ++ d.b 1) := Lib.hid rfl
    have HFN := Lib.hid (show ((fileB d (Int.toNat 0)).length : Int) = (n1 : Int) from by rw [← hl1]; rfl)
    rw [HFN.out] at HA
    rw [hl1] at hfl
    have hfa : n1 ≤ (d.b 0).length + (d.b 1).length := Nat.le_of_eq hfl
    have hfb : (d.b 0).length + (d.b 1).length ≤ n1 := Nat.le_of_eq hfl.symm
    clear hfl
    have e4 := H1.out.cells.2.2.2.2.1
    clear ho hb hl1
    by_cases hbad : n < 0 ∨ (n1 : Int) < n
    · have HA := Lib.hid (HA.out.trans (if_pos hbad))
      have HRt : Hid (RetF w base p cs (.int .i64 (cutR d 0 n).2) (cutR d 0 n).1 (.returned (.int .i64 1)) w1) := Lib.hid ⟨by rw [HA.out], cs, by rw [HA.out]; exact H1.out, DStep.below HB1.out hbase⟩
      rcases hbad with hb | hb
      · go_wp2
        go_ret
        exact HRt.out
      · have hb0 : ¬ n < 0 := by omega
        go_wp2
        go_ret
        exact HRt.out
    · have hn0 : ¬ n < 0 := fun e => hbad (.inl e)
      have hn1 : ¬ (n1 : Int) < n := fun e => hbad (.inr e)
      have HA := Lib.hid (HA.out.trans (if_neg hbad))
      clear hbad
      cases ho : d.off
      · have HA := Lib.hid (HA.out.trans (if_neg (by rw [show rdy d 0 = ans d.off from rdy0 0 (by omega), ho]; decide)))
        rw [ho] at e4
        simp only [Bool.not_false] at e4
        have HRaw := Lib.hid (rraw_any H1.out HD.out.n HD.out.a)
        have HKK := Lib.hid (rawD_off d).2.2
        have HBB := Lib.hid (rawD_off d).2.1
        have HSM := Lib.hid HD.out.raw
        have HS : Hid (cutD d 0 n.toNat = if (rawD d).2 then gone d else cutB (gone d) 0 n.toNat) := Lib.hid rfl
        have HG : Hid (gone d = if (rawD d).2 then offD (rawD d).1 d.k else (rawD d).1) := Lib.hid rfl
        clear ho
        generalize (rawD d).2 = gg at HRaw HG HA HS
        generalize (rawD d).1 = d2 at HRaw HG HKK HSM HBB
        go_wp2_with fail
        refine HRaw.out.mono ?_
        rintro e w3 ⟨rfl, h3, s3⟩
        have S3 := Lib.hid ((DStep.below HB1.out hbase).trans s3)
        have hAn : ∀ g, (Value.slice A1 n1 c1).ownBlock = some g → ¬ Ft p cs g ∧ w.heap.size ≤ g := fun g hg => by
          have h1 := (OwB.blk HAL.out g hg).1
          exact ⟨fun e => by have := HFT.out g e; omega, h1⟩
        have HAN := Lib.hid hAn
        have HAL3 := Lib.hid (own_apartF HAL.out (fun g hg => (hAn g hg).1) s3)
        clear hAn
        cases gg
        · have H3 := Lib.hid h3
          have e0 := h3.cells.1
          have e1 := h3.cells.2.1
          have f0 := h3.free 0
          have f1 := h3.free 2
          have hsn : (cs 0).n = (d.b 0).length := by rw [← (h3.row 0 (by omega)).len, HBB.out]
          have RB := Lib.hid (Below.refl w3.drew.heap.size w3.drew)
          clear h3 s3 e4
          obtain ⟨N, rfl⟩ := Int.eq_ofNat_of_zero_le (show 0 ≤ n by omega)
          have HTN := Lib.hid (show (N : Int).toNat = N by omega)
          rw [HTN.out] at HS HA
          have hN1 : N ≤ n1 := by omega
          have hNc : N ≤ c1 := by omega
          have hNci : (N : Int) ≤ (c1 : Int) := by omega
          obtain ⟨sn, hsn2⟩ : ∃ x, (cs 0).n = x := ⟨_, rfl⟩
          rw [hsn2] at e0 hsn
          have HSN : Hid (sn = (d2.b (2 * 0)).length) := Lib.hid (by rw [hsn, HBB.out])
          have HFB : Hid (fileB d 0 = d2.b (2 * 0) ++ d2.b (2 * 0 + 1)) := Lib.hid (by rw [HBB.out]; rfl)
          clear hsn2
          have hsle : sn ≤ n1 := by omega
          have hslc : sn ≤ 70368744177664 := by omega
          clear hsn
          by_cases hle : N ≤ sn
          · have hlei : (N : Int) ≤ (sn : Int) := by omega
            have HCB := Lib.hid (cut_short (d := d2) 0 N (by omega) (by rw [← HSN.out]; exact hle))
            have HX := Lib.hid (slot_later (S3.out.trans (DStep.below (Below.refl _ _).drew H3.out.base_le)) H3.out.drewd (i := 0) (x := ⟨A1, N, N⟩) (ys := (fileB d 0).take N) (by omega) ⟨c1, (OwB.first HAL3.out N hN1).below (Below.refl _ _).drew |>.less hbase, .inr rfl⟩ (fun g hg => HAN.out g (own_same hg)))
            have HX1 : Hid (RAt ((w3.setCell ⟨p, 0, none⟩ (.slice A1 N N)).drew) base p (upd cs 0 ⟨A1, N, N⟩) (putB d2 0 ((fileB d 0).take N))) := Lib.hid HX.out.1
            have HX2 : Hid (DStep w base p cs ((w3.setCell ⟨p, 0, none⟩ (.slice A1 N N)).drew) (upd cs 0 ⟨A1, N, N⟩)) := Lib.hid HX.out.2
            have e0d : w3.drew.cell? ⟨p, 0, none⟩ = some (.slice (cs 0).A sn (cs 0).c) := e0
            have f0d : w3.drew.frozen? ⟨p, 0, none⟩ = false := f0
            clear HX e1 f1
            go_wp2_with fail
            refine begin_ (fun _ : World => True) [9] (by kernel_rfl) ?_
            have hSw : True := trivial
            simp only [List.size_toArray, List.length_cons, List.length_nil, Nat.reduceAdd, Array.replicate_succ, Array.replicate_zero, List.push_toArray, List.append_toArray, List.nil_append, List.cons_append]
            refine move_a (i := 0) (v := ?_) rfl (by kernel_rfl) (by kernel_rfl) (by kernel_rfl) (fun _ _ _ h => h) (by rfl) ?_ ?_
            rotate_left
            · (intro w; go_simp; try with_reducible rfl)
            try simp only [Act.put, List.setIfInBounds_toArray, List.set_cons_zero, List.set_cons_succ]
            refine move_a (i := 1) (v := ?_) rfl (by kernel_rfl) (by kernel_rfl) (by kernel_rfl) (fun _ _ _ h => h) (by rfl) ?_ ?_
            rotate_left
            · (intro w; go_simp; try with_reducible rfl)
            try simp only [Act.put, List.setIfInBounds_toArray, List.set_cons_zero, List.set_cons_succ]
            refine move_a (i := 2) (v := ?_) rfl (by kernel_rfl) (by kernel_rfl) (by kernel_rfl) (fun _ _ _ h => h) (by rfl) ?_ ?_
            rotate_left
            · (intro w; go_simp; try with_reducible rfl)
            try simp only [Act.put, List.setIfInBounds_toArray, List.set_cons_zero, List.set_cons_succ]
            refine move_a (i := 3) (v := ?_) rfl (by kernel_rfl) (by kernel_rfl) (by kernel_rfl) (fun _ _ _ h => h) (by rfl) ?_ ?_
            rotate_left
            · (intro w; go_simp; try with_reducible rfl)
            try simp only [Act.put, List.setIfInBounds_toArray, List.set_cons_zero, List.set_cons_succ]
            refine move_a (i := 4) (v := ?_) rfl (by kernel_rfl) (by kernel_rfl) (by kernel_rfl) (fun _ _ _ h => h) (by rfl) ?_ ?_
            rotate_left
            · (intro w; go_simp; try with_reducible rfl)
            try simp only [Act.put, List.setIfInBounds_toArray, List.set_cons_zero, List.set_cons_succ]
            refine move_a (i := 5) (v := ?_) rfl (by kernel_rfl) (by kernel_rfl) (by kernel_rfl) (fun _ _ _ h => h) (by rfl) ?_ ?_
            rotate_left
            · (intro w; go_simp; try with_reducible rfl)
            try simp only [Act.put, List.setIfInBounds_toArray, List.set_cons_zero, List.set_cons_succ]
            refine move_a (i := 6) (v := ?_) rfl (by kernel_rfl) (by kernel_rfl) (by kernel_rfl) (fun _ _ _ h => h) (by rfl) ?_ ?_
            rotate_left
            · (intro w; go_simp; try with_reducible rfl)
            try simp only [Act.put, List.setIfInBounds_toArray, List.set_cons_zero, List.set_cons_succ]
            refine move_a (i := 7) (v := ?_) rfl (by kernel_rfl) (by kernel_rfl) (by kernel_rfl) (fun _ _ _ h => h) (by rfl) ?_ ?_
            rotate_left
            · (intro w; go_simp; try with_reducible rfl)
            try simp only [Act.put, List.setIfInBounds_toArray, List.set_cons_zero, List.set_cons_succ]
            refine move_a (i := 8) (v := ?_) rfl (by kernel_rfl) (by kernel_rfl) (by kernel_rfl) (fun _ _ _ h => h) (by rfl) ?_ ?_
            rotate_left
            · (intro w; go_simp; try with_reducible rfl)
            try simp only [Act.put, List.setIfInBounds_toArray, List.set_cons_zero, List.set_cons_succ]
            refine move_c (i := 9) (by kernel_rfl) rfl (by rfl) (fun K hK => ?_)
            go_simp
            refine hK _ _ ?_
            clear hK K
            try simp only [Act.put, List.setIfInBounds_toArray, List.set_cons_zero, List.set_cons_succ]
            refine move_d (by kernel_rfl) ?_
            clear e0 e0d f0 f0d
            generalize (w3.setCell ⟨p, 0, none⟩ (.slice A1 N N)).drew = w4 at HX1 HX2 ⊢
            have c4 := HX1.out.cells.2.1
            have f4 := HX1.out.free 2
            have HY := Lib.hid (HX1.out.slot (w1 := w4) (i := 1) (x := nilS) (ys := []) (by omega) (grownBy_self _ _) (OwF.of (OwB.nil _ _)) (fun g e => by cases e))
            have HY1 : Hid (RAt (w4.setCell ⟨p, 2, none⟩ (.slice none 0 0)) base p (upd (upd cs 0 ⟨A1, N, N⟩) 1 nilS) (cutB d2 0 N)) := Lib.hid (by rw [HCB.out, ← HFB.out]; exact HY.out.1)
            have HY2 : Hid (DStep w4 base p (upd cs 0 ⟨A1, N, N⟩) (w4.setCell ⟨p, 2, none⟩ (.slice none 0 0)) (upd (upd cs 0 ⟨A1, N, N⟩) 1 nilS)) := Lib.hid HY.out.2
            clear HY
            go_wp2
            go_ret
            refine ⟨by rw [HA.out]; rfl, _, ?_, HX2.out.trans HY2.out⟩
            rw [HA.out]
            show RAt _ _ _ _ (cutD d 0 N)
            rw [HS.out, HG.out]
            exact HY1.out
          · have hlei : ¬ (N : Int) ≤ (sn : Int) := by omega
            have hsN : sn ≤ N := by omega
            have HCB := Lib.hid (cut_long (d := d2) 0 N (by rw [← HSN.out]; exact hsN))
            obtain ⟨A5, n5, c5, hcut, hq1, hq2, hq3, hcr⟩ := cutLH A1 n1 c1 sn N hsN hN1 hc1
            have HCR := Lib.hid (hcr w3 _ HAL3.out.rd)
            clear hcr f0
            go_wp2_with fail
            refine begin_ (fun _ : World => True) [7, 11] (by kernel_rfl) ?_
            have hSw : True := trivial
            simp only [List.size_toArray, List.length_cons, List.length_nil, Nat.reduceAdd, Array.replicate_succ, Array.replicate_zero, List.push_toArray, List.append_toArray, List.nil_append, List.cons_append]
            refine move_a (i := 0) (v := ?_) rfl (by kernel_rfl) (by kernel_rfl) (by kernel_rfl) (fun _ _ _ h => h) (by rfl) ?_ ?_
            rotate_left
            · (intro w; go_simp; try with_reducible rfl)
            try simp only [Act.put, List.setIfInBounds_toArray, List.set_cons_zero, List.set_cons_succ]
            refine move_a (i := 1) (v := ?_) rfl (by kernel_rfl) (by kernel_rfl) (by kernel_rfl) (fun _ _ _ h => h) (by rfl) ?_ ?_
            rotate_left
            · (intro w; go_simp; try with_reducible rfl)
            try simp only [Act.put, List.setIfInBounds_toArray, List.set_cons_zero, List.set_cons_succ]
            refine move_a (i := 3) (v := ?_) rfl (by kernel_rfl) (by kernel_rfl) (by kernel_rfl) (fun _ _ _ h => h) (by rfl) ?_ ?_
            rotate_left
            · (intro w; go_simp; try with_reducible rfl)
            try simp only [Act.put, List.setIfInBounds_toArray, List.set_cons_zero, List.set_cons_succ]
            refine move_a (i := 4) (v := ?_) rfl (by kernel_rfl) (by kernel_rfl) (by kernel_rfl) (fun _ _ _ h => h) (by rfl) ?_ ?_
            rotate_left
            · (intro w; go_simp; try with_reducible rfl)
            try simp only [Act.put, List.setIfInBounds_toArray, List.set_cons_zero, List.set_cons_succ]
            refine move_a (i := 5) (v := ?_) rfl (by kernel_rfl) (by kernel_rfl) (by kernel_rfl) (fun _ _ _ h => h) (by rfl) ?_ ?_
            rotate_left
            · (intro w; go_simp; try with_reducible rfl)
            try simp only [Act.put, List.setIfInBounds_toArray, List.set_cons_zero, List.set_cons_succ]
            refine move_a (i := 6) (v := ?_) rfl (by kernel_rfl) (by kernel_rfl) (by kernel_rfl) (fun _ _ _ h => h) (by rfl) ?_ ?_
            rotate_left
            · (intro w; go_simp; try with_reducible rfl)
            try simp only [Act.put, List.setIfInBounds_toArray, List.set_cons_zero, List.set_cons_succ]
            refine move_a (i := 8) (v := ?_) rfl (by kernel_rfl) (by kernel_rfl) (by kernel_rfl) (fun _ _ _ h => h) (by rfl) ?_ ?_
            rotate_left
            · (intro w; go_simp; try with_reducible rfl)
            try simp only [Act.put, List.setIfInBounds_toArray, List.set_cons_zero, List.set_cons_succ]
            refine move_a (i := 9) (v := ?_) rfl (by kernel_rfl) (by kernel_rfl) (by kernel_rfl) (fun _ _ _ h => h) (by rfl) ?_ ?_
            rotate_left
            · (intro w; go_simp; try with_reducible rfl)
            try simp only [Act.put, List.setIfInBounds_toArray, List.set_cons_zero, List.set_cons_succ]
            refine move_e (i := 2) (by kernel_rfl) rfl (fun K hK => ?_)
            go_simp
            refine hK _ _ (fun hS => trivial) ?_
            clear hK K
            try simp only [Act.put, List.setIfInBounds_toArray, List.set_cons_zero, List.set_cons_succ]
            refine move_c (i := 7) (by kernel_rfl) rfl (by rfl) (fun K hK => ?_)
            (refine stepApp (w0 := w3.drew) (base := w3.drew.heap.size) rfl (.tmp 65) (.tmp 69) rfl rfl rfl (OwB.lit0 w3.drew _ (Nat.le_refl _)) (HCR.out.below ((Below.refl w3.heap.size w3).alloc (Nat.le_refl _) _).drew) (RB.out.alloc (Nat.le_refl _) _) (by simp) (by omega) ?_; intro A2 n2 c2 w2 ho hb; rw [List.nil_append] at ho; have HO2 := Lib.hid ho; have HB2 : Hid (Below w3.heap.size w3 w2) := Lib.hid ((Below.refl w3.heap.size w3).drew.trans hb); have y1 := (H3.out.below HB2.out).cells.2.1; have z1 := (H3.out.below HB2.out).free 2; clear ho hb)
            refine hK _ _ ?_
            clear hK K
            try simp only [Act.put, List.setIfInBounds_toArray, List.set_cons_zero, List.set_cons_succ]
            refine move_a (i := 10) (v := ?_) rfl (by kernel_rfl) (by kernel_rfl) (by kernel_rfl) (fun _ _ _ h => h) (by rfl) ?_ ?_
            rotate_left
            · (intro w; go_simp; try with_reducible rfl)
            try simp only [Act.put, List.setIfInBounds_toArray, List.set_cons_zero, List.set_cons_succ]
            refine move_c (i := 11) (by kernel_rfl) rfl (by rfl) (fun K hK => ?_)
            go_simp
            refine hK _ _ ?_
            clear hK K
            try simp only [Act.put, List.setIfInBounds_toArray, List.set_cons_zero, List.set_cons_succ]
            refine move_d (by kernel_rfl) ?_
            have HF := Lib.hid (H3.out.slotN HB2.out (i := 1) (x := ⟨A2, n2, c2⟩) (by omega) (OwF.of HO2.out))
            have HF1 : Hid (RAt (w2.setCell ⟨p, 2, none⟩ (.slice A2 n2 c2)) base p (upd cs 1 ⟨A2, n2, c2⟩) (cutB d2 0 N)) := Lib.hid (by rw [HCB.out, ← HFB.out, ← HSN.out]; exact HF.out.1)
            have HF2 : Hid (DStep w3 base p cs (w2.setCell ⟨p, 2, none⟩ (.slice A2 n2 c2)) (upd cs 1 ⟨A2, n2, c2⟩)) := Lib.hid HF.out.2
            clear HF y1 z1
            go_wp2
            go_ret
            refine ⟨by rw [HA.out]; rfl, _, ?_, S3.out.trans HF2.out⟩
            rw [HA.out]
            show RAt _ _ _ _ (cutD d 0 N)
            rw [HS.out, HG.out]
            exact HF1.out
        · have e7 := h3.cells.2.2.2.2.2.2.2
          rw [HKK.out] at e7
          have HO := Lib.hid (roff_any h3 HSM.out d.k)
          clear h3 s3
          go_wp2_with fail
          refine HO.out.mono ?_
          rintro e w4 hret
          have HRt := Lib.hid (RetF.from S3.out hret)
          clear hret
          obtain ⟨rfl, cs4, h4, s4⟩ := HRt.out
          go_wp2
          go_ret
          refine ⟨by rw [HA.out]; rfl, cs4, ?_, s4⟩
          rw [HA.out]
          show RAt _ _ _ _ (cutD d 0 n.toNat)
          rw [HS.out, HG.out]
          exact h4
      · have HA := Lib.hid (HA.out.trans (if_pos (by rw [show rdy d 0 = ans d.off from rdy0 0 (by omega), ho]; decide)))
        rw [show rdy d 0 = 40 from by rw [show rdy d 0 = ans d.off from rdy0 0 (by omega), ho]; rfl] at HA
        rw [ho] at e4
        simp only [Bool.not_true] at e4
        clear ho
        go_wp2
        go_ret
        exact ⟨by rw [HA.out]; rfl, cs, by rw [HA.out]; exact H1.out, DStep.below HB1.out hbase⟩
  · by_cases hf1 : f = 1
    · subst hf1
      have HA := Lib.hid (HA.out.trans (if_neg (by rw [show rdy d 1 = ans d.off from rdy0 1 (by omega)]; unfold ans; split <;> decide)))
      have CAL := Lib.hid (rall_any h hd.b 1 (by omega))
      have hfl : (fileB d 1).length = (d.b 2).length + (d.b 3).length := by unfold fileB; rw [List.length_append]
      have hb0 := hd.b 2 (by omega)
      have hb1 := hd.b 3 (by omega)
      have HD := Lib.hid hd
      have HFT : Hid (∀ g, Ft p cs g → g < w.heap.size) := Lib.hid fun g hg => (h.ft hg).2
      have hbase := h.base_le
      clear h hd
      go_enter Tryd.func44, Tryd.ntmps44
      go_wp2_with fail
      refine CAL.out.mono ?_
      rintro e w1 ⟨A1, n1, c1, rfl, ho, hb⟩
      have HAL := Lib.hid ho
      have HB1 := Lib.hid hb
      have H1 := Lib.hid (H.out.below hb)
      have hl1 := ho.len
      have hc1 := ho.cap
      have HFL : Hid (fileB d 1 = d.b 2 ++ d.b 3) := Lib.hid rfl
      have HFN := Lib.hid (show ((fileB d (Int.toNat 1)).length : Int) = (n1 : Int) from by rw [← hl1]; rfl)
      rw [HFN.out] at HA
      rw [hl1] at hfl
      have hfa : n1 ≤ (d.b 2).length + (d.b 3).length := Nat.le_of_eq hfl
      have hfb : (d.b 2).length + (d.b 3).length ≤ n1 := Nat.le_of_eq hfl.symm
      clear hfl
      have e4 := H1.out.cells.2.2.2.2.1
      clear ho hb hl1
      by_cases hbad : n < 0 ∨ (n1 : Int) < n
      · have HA := Lib.hid (HA.out.trans (if_pos hbad))
        have HRt : Hid (RetF w base p cs (.int .i64 (cutR d 1 n).2) (cutR d 1 n).1 (.returned (.int .i64 1)) w1) := Lib.hid ⟨by rw [HA.out], cs, by rw [HA.out]; exact H1.out, DStep.below HB1.out hbase⟩
        rcases hbad with hb | hb
        · go_wp2
          go_ret
          exact HRt.out
        · have hb0 : ¬ n < 0 := by omega
          go_wp2
          go_ret
          exact HRt.out
      · have hn0 : ¬ n < 0 := fun e => hbad (.inl e)
        have hn1 : ¬ (n1 : Int) < n := fun e => hbad (.inr e)
        have HA := Lib.hid (HA.out.trans (if_neg hbad))
        clear hbad
        cases ho : d.off
        · have HA := Lib.hid (HA.out.trans (if_neg (by rw [show rdy d 1 = ans d.off from rdy0 1 (by omega), ho]; decide)))
          rw [ho] at e4
          simp only [Bool.not_false] at e4
          have HRaw := Lib.hid (rraw_any H1.out HD.out.n HD.out.a)
          have HKK := Lib.hid (rawD_off d).2.2
          have HBB := Lib.hid (rawD_off d).2.1
          have HSM := Lib.hid HD.out.raw
          have HS : Hid (cutD d 1 n.toNat = if (rawD d).2 then gone d else cutB (gone d) 1 n.toNat) := Lib.hid rfl
          have HG : Hid (gone d = if (rawD d).2 then offD (rawD d).1 d.k else (rawD d).1) := Lib.hid rfl
          clear ho
          generalize (rawD d).2 = gg at HRaw HG HA HS
          generalize (rawD d).1 = d2 at HRaw HG HKK HSM HBB
          go_wp2_with fail
          refine HRaw.out.mono ?_
          rintro e w3 ⟨rfl, h3, s3⟩
          have S3 := Lib.hid ((DStep.below HB1.out hbase).trans s3)
          have hAn : ∀ g, (Value.slice A1 n1 c1).ownBlock = some g → ¬ Ft p cs g ∧ w.heap.size ≤ g := fun g hg => by
            have h1 := (OwB.blk HAL.out g hg).1
            exact ⟨fun e => by have := HFT.out g e; omega, h1⟩
          have HAN := Lib.hid hAn
          have HAL3 := Lib.hid (own_apartF HAL.out (fun g hg => (hAn g hg).1) s3)
          clear hAn
          cases gg
          · have H3 := Lib.hid h3
            have e0 := h3.cells.2.2.1
            have e1 := h3.cells.2.2.2.1
            have f0 := h3.free 1
            have f1 := h3.free 3
            have hsn : (cs 2).n = (d.b 2).length := by rw [← (h3.row 2 (by omega)).len, HBB.out]
            have RB := Lib.hid (Below.refl w3.drew.heap.size w3.drew)
            clear h3 s3 e4
            obtain ⟨N, rfl⟩ := Int.eq_ofNat_of_zero_le (show 0 ≤ n by omega)
            have HTN := Lib.hid (show (N : Int).toNat = N by omega)
            rw [HTN.out] at HS HA
            have hN1 : N ≤ n1 := by omega
            have hNc : N ≤ c1 := by omega
            have hNci : (N : Int) ≤ (c1 : Int) := by omega
            obtain ⟨sn, hsn2⟩ : ∃ x, (cs 2).n = x := ⟨_, rfl⟩
            rw [hsn2] at e0 hsn
            have HSN : Hid (sn = (d2.b (2 * 1)).length) := Lib.hid (by rw [hsn, HBB.out])
            have HFB : Hid (fileB d 1 = d2.b (2 * 1) ++ d2.b (2 * 1 + 1)) := Lib.hid (by rw [HBB.out]; rfl)
            clear hsn2
            have hsle : sn ≤ n1 := by omega
            have hslc : sn ≤ 70368744177664 := by omega
            clear hsn
            by_cases hle : N ≤ sn
            · have hlei : (N : Int) ≤ (sn : Int) := by omega
              have HCB := Lib.hid (cut_short (d := d2) 1 N (by omega) (by rw [← HSN.out]; exact hle))
              have HX := Lib.hid (slot_later (S3.out.trans (DStep.below (Below.refl _ _).drew H3.out.base_le)) H3.out.drewd (i := 2) (x := ⟨A1, N, N⟩) (ys := (fileB d 1).take N) (by omega) ⟨c1, (OwB.first HAL3.out N hN1).below (Below.refl _ _).drew |>.less hbase, .inr rfl⟩ (fun g hg => HAN.out g (own_same hg)))
              have HX1 : Hid (RAt ((w3.setCell ⟨p, 1, none⟩ (.slice A1 N N)).drew) base p (upd cs 2 ⟨A1, N, N⟩) (putB d2 2 ((fileB d 1).take N))) := Lib.hid HX.out.1
              have HX2 : Hid (DStep w base p cs ((w3.setCell ⟨p, 1, none⟩ (.slice A1 N N)).drew) (upd cs 2 ⟨A1, N, N⟩)) := Lib.hid HX.out.2
              have e0d : w3.drew.cell? ⟨p, 1, none⟩ = some (.slice (cs 2).A sn (cs 2).c) := e0
              have f0d : w3.drew.frozen? ⟨p, 1, none⟩ = false := f0
              clear HX e1 f1
              go_wp2_with fail
              refine begin_ (fun _ : World => True) [9] (by kernel_rfl) ?_
              have hSw : True := trivial
              simp only [List.size_toArray, List.length_cons, List.length_nil, Nat.reduceAdd, Array.replicate_succ, Array.replicate_zero, List.push_toArray, List.append_toArray, List.nil_append, List.cons_append]
              refine move_a (i := 0) (v := ?_) rfl (by kernel_rfl) (by kernel_rfl) (by kernel_rfl) (fun _ _ _ h => h) (by rfl) ?_ ?_
              rotate_left
              · (intro w; go_simp; try with_reducible rfl)
              try simp only [Act.put, List.setIfInBounds_toArray, List.set_cons_zero, List.set_cons_succ]
              refine move_a (i := 1) (v := ?_) rfl (by kernel_rfl) (by kernel_rfl) (by kernel_rfl) (fun _ _ _ h => h) (by rfl) ?_ ?_
              rotate_left
              · (intro w; go_simp; try with_reducible rfl)
              try simp only [Act.put, List.setIfInBounds_toArray, List.set_cons_zero, List.set_cons_succ]
              refine move_a (i := 2) (v := ?_) rfl (by kernel_rfl) (by kernel_rfl) (by kernel_rfl) (fun _ _ _ h => h) (by rfl) ?_ ?_
              rotate_left
              · (intro w; go_simp; try with_reducible rfl)
              try simp only [Act.put, List.setIfInBounds_toArray, List.set_cons_zero, List.set_cons_succ]
              refine move_a (i := 3) (v := ?_) rfl (by kernel_rfl) (by kernel_rfl) (by kernel_rfl) (fun _ _ _ h => h) (by rfl) ?_ ?_
              rotate_left
              · (intro w; go_simp; try with_reducible rfl)
              try simp only [Act.put, List.setIfInBounds_toArray, List.set_cons_zero, List.set_cons_succ]
              refine move_a (i := 4) (v := ?_) rfl (by kernel_rfl) (by kernel_rfl) (by kernel_rfl) (fun _ _ _ h => h) (by rfl) ?_ ?_
              rotate_left
              · (intro w; go_simp; try with_reducible rfl)
              try simp only [Act.put, List.setIfInBounds_toArray, List.set_cons_zero, List.set_cons_succ]
              refine move_a (i := 5) (v := ?_) rfl (by kernel_rfl) (by kernel_rfl) (by kernel_rfl) (fun _ _ _ h => h) (by rfl) ?_ ?_
              rotate_left
              · (intro w; go_simp; try with_reducible rfl)
              try simp only [Act.put, List.setIfInBounds_toArray, List.set_cons_zero, List.set_cons_succ]
              refine move_a (i := 6) (v := ?_) rfl (by kernel_rfl) (by kernel_rfl) (by kernel_rfl) (fun _ _ _ h => h) (by rfl) ?_ ?_
              rotate_left
              · (intro w; go_simp; try with_reducible rfl)
              try simp only [Act.put, List.setIfInBounds_toArray, List.set_cons_zero, List.set_cons_succ]
              refine move_a (i := 7) (v := ?_) rfl (by kernel_rfl) (by kernel_rfl) (by kernel_rfl) (fun _ _ _ h => h) (by rfl) ?_ ?_
              rotate_left
              · (intro w; go_simp; try with_reducible rfl)
              try simp only [Act.put, List.setIfInBounds_toArray, List.set_cons_zero, List.set_cons_succ]
              refine move_a (i := 8) (v := ?_) rfl (by kernel_rfl) (by kernel_rfl) (by kernel_rfl) (fun _ _ _ h => h) (by rfl) ?_ ?_
              rotate_left
              · (intro w; go_simp; try with_reducible rfl)
              try simp only [Act.put, List.setIfInBounds_toArray, List.set_cons_zero, List.set_cons_succ]
              refine move_c (i := 9) (by kernel_rfl) rfl (by rfl) (fun K hK => ?_)
              go_simp
              refine hK _ _ ?_
              clear hK K
              try simp only [Act.put, List.setIfInBounds_toArray, List.set_cons_zero, List.set_cons_succ]
              refine move_d (by kernel_rfl) ?_
              clear e0 e0d f0 f0d
              generalize (w3.setCell ⟨p, 1, none⟩ (.slice A1 N N)).drew = w4 at HX1 HX2 ⊢
              have c4 := HX1.out.cells.2.2.2.1
              have f4 := HX1.out.free 3
              have HY := Lib.hid (HX1.out.slot (w1 := w4) (i := 3) (x := nilS) (ys := []) (by omega) (grownBy_self _ _) (OwF.of (OwB.nil _ _)) (fun g e => by cases e))
              have HY1 : Hid (RAt (w4.setCell ⟨p, 3, none⟩ (.slice none 0 0)) base p (upd (upd cs 2 ⟨A1, N, N⟩) 3 nilS) (cutB d2 1 N)) := Lib.hid (by rw [HCB.out, ← HFB.out]; exact HY.out.1)
              have HY2 : Hid (DStep w4 base p (upd cs 2 ⟨A1, N, N⟩) (w4.setCell ⟨p, 3, none⟩ (.slice none 0 0)) (upd (upd cs 2 ⟨A1, N, N⟩) 3 nilS)) := Lib.hid HY.out.2
              clear HY
              go_wp2
              go_ret
              refine ⟨by rw [HA.out]; rfl, _, ?_, HX2.out.trans HY2.out⟩
              rw [HA.out]
              show RAt _ _ _ _ (cutD d 1 N)
              rw [HS.out, HG.out]
              exact HY1.out
            · have hlei : ¬ (N : Int) ≤ (sn : Int) := by omega
              have hsN : sn ≤ N := by omega
              have HCB := Lib.hid (cut_long (d := d2) 1 N (by rw [← HSN.out]; exact hsN))
              obtain ⟨A5, n5, c5, hcut, hq1, hq2, hq3, hcr⟩ := cutLH A1 n1 c1 sn N hsN hN1 hc1
              have HCR := Lib.hid (hcr w3 _ HAL3.out.rd)
              clear hcr f0
              go_wp2_with fail
              refine begin_ (fun _ : World => True) [7, 11] (by kernel_rfl) ?_
              have hSw : True := trivial
              simp only [List.size_toArray, List.length_cons, List.length_nil, Nat.reduceAdd, Array.replicate_succ, Array.replicate_zero, List.push_toArray, List.append_toArray, List.nil_append, List.cons_append]
              refine move_a (i := 0) (v := ?_) rfl (by kernel_rfl) (by kernel_rfl) (by kernel_rfl) (fun _ _ _ h => h) (by rfl) ?_ ?_
              rotate_left
              · (intro w; go_simp; try with_reducible rfl)
              try simp only [Act.put, List.setIfInBounds_toArray, List.set_cons_zero, List.set_cons_succ]
              refine move_a (i := 1) (v := ?_) rfl (by kernel_rfl) (by kernel_rfl) (by kernel_rfl) (fun _ _ _ h => h) (by rfl) ?_ ?_
              rotate_left
              · (intro w; go_simp; try with_reducible rfl)
              try simp only [Act.put, List.setIfInBounds_toArray, List.set_cons_zero, List.set_cons_succ]
              refine move_a (i := 3) (v := ?_) rfl (by kernel_rfl) (by kernel_rfl) (by kernel_rfl) (fun _ _ _ h => h) (by rfl) ?_ ?_
              rotate_left
              · (intro w; go_simp; try with_reducible rfl)
              try simp only [Act.put, List.setIfInBounds_toArray, List.set_cons_zero, List.set_cons_succ]
              refine move_a (i := 4) (v := ?_) rfl (by kernel_rfl) (by kernel_rfl) (by kernel_rfl) (fun _ _ _ h => h) (by rfl) ?_ ?_
              rotate_left
              · (intro w; go_simp; try with_reducible rfl)
              try simp only [Act.put, List.setIfInBounds_toArray, List.set_cons_zero, List.set_cons_succ]
              refine move_a (i := 5) (v := ?_) rfl (by kernel_rfl) (by kernel_rfl) (by kernel_rfl) (fun _ _ _ h => h) (by rfl) ?_ ?_
              rotate_left
              · (intro w; go_simp; try with_reducible rfl)
              try simp only [Act.put, List.setIfInBounds_toArray, List.set_cons_zero, List.set_cons_succ]
              refine move_a (i := 6) (v := ?_) rfl (by kernel_rfl) (by kernel_rfl) (by kernel_rfl) (fun _ _ _ h => h) (by rfl) ?_ ?_
              rotate_left
              · (intro w; go_simp; try with_reducible rfl)
              try simp only [Act.put, List.setIfInBounds_toArray, List.set_cons_zero, List.set_cons_succ]
              refine move_a (i := 8) (v := ?_) rfl (by kernel_rfl) (by kernel_rfl) (by kernel_rfl) (fun _ _ _ h => h) (by rfl) ?_ ?_
              rotate_left
              · (intro w; go_simp; try with_reducible rfl)
              try simp only [Act.put, List.setIfInBounds_toArray, List.set_cons_zero, List.set_cons_succ]
              refine move_a (i := 9) (v := ?_) rfl (by kernel_rfl) (by kernel_rfl) (by kernel_rfl) (fun _ _ _ h => h) (by rfl) ?_ ?_
              rotate_left
              · (intro w; go_simp; try with_reducible rfl)
              try simp only [Act.put, List.setIfInBounds_toArray, List.set_cons_zero, List.set_cons_succ]
              refine move_e (i := 2) (by kernel_rfl) rfl (fun K hK => ?_)
              go_simp
              refine hK _ _ (fun hS => trivial) ?_
              clear hK K
              try simp only [Act.put, List.setIfInBounds_toArray, List.set_cons_zero, List.set_cons_succ]
              refine move_c (i := 7) (by kernel_rfl) rfl (by rfl) (fun K hK => ?_)
              (refine stepApp (w0 := w3.drew) (base := w3.drew.heap.size) rfl (.tmp 65) (.tmp 69) rfl rfl rfl (OwB.lit0 w3.drew _ (Nat.le_refl _)) (HCR.out.below ((Below.refl w3.heap.size w3).alloc (Nat.le_refl _) _).drew) (RB.out.alloc (Nat.le_refl _) _) (by simp) (by omega) ?_; intro A2 n2 c2 w2 ho hb; rw [List.nil_append] at ho; have HO2 := Lib.hid ho; have HB2 : Hid (Below w3.heap.size w3 w2) := Lib.hid ((Below.refl w3.heap.size w3).drew.trans hb); have y1 := (H3.out.below HB2.out).cells.2.2.2.1; have z1 := (H3.out.below HB2.out).free 3; clear ho hb)
              refine hK _ _ ?_
              clear hK K
              try simp only [Act.put, List.setIfInBounds_toArray, List.set_cons_zero, List.set_cons_succ]
              refine move_a (i := 10) (v := ?_) rfl (by kernel_rfl) (by kernel_rfl) (by kernel_rfl) (fun _ _ _ h => h) (by rfl) ?_ ?_
              rotate_left
              · (intro w; go_simp; try with_reducible rfl)
              try simp only [Act.put, List.setIfInBounds_toArray, List.set_cons_zero, List.set_cons_succ]
              refine move_c (i := 11) (by kernel_rfl) rfl (by rfl) (fun K hK => ?_)
              go_simp
              refine hK _ _ ?_
              clear hK K
              try simp only [Act.put, List.setIfInBounds_toArray, List.set_cons_zero, List.set_cons_succ]
              refine move_d (by kernel_rfl) ?_
              have HF := Lib.hid (H3.out.slotN HB2.out (i := 3) (x := ⟨A2, n2, c2⟩) (by omega) (OwF.of HO2.out))
              have HF1 : Hid (RAt (w2.setCell ⟨p, 3, none⟩ (.slice A2 n2 c2)) base p (upd cs 3 ⟨A2, n2, c2⟩) (cutB d2 1 N)) := Lib.hid (by rw [HCB.out, ← HFB.out, ← HSN.out]; exact HF.out.1)
              have HF2 : Hid (DStep w3 base p cs (w2.setCell ⟨p, 3, none⟩ (.slice A2 n2 c2)) (upd cs 3 ⟨A2, n2, c2⟩)) := Lib.hid HF.out.2
              clear HF y1 z1
              go_wp2
              go_ret
              refine ⟨by rw [HA.out]; rfl, _, ?_, S3.out.trans HF2.out⟩
              rw [HA.out]
              show RAt _ _ _ _ (cutD d 1 N)
              rw [HS.out, HG.out]
              exact HF1.out
          · have e7 := h3.cells.2.2.2.2.2.2.2
            rw [HKK.out] at e7
            have HO := Lib.hid (roff_any h3 HSM.out d.k)
            clear h3 s3
            go_wp2_with fail
            refine HO.out.mono ?_
            rintro e w4 hret
            have HRt := Lib.hid (RetF.from S3.out hret)
            clear hret
            obtain ⟨rfl, cs4, h4, s4⟩ := HRt.out
            go_wp2
            go_ret
            refine ⟨by rw [HA.out]; rfl, cs4, ?_, s4⟩
            rw [HA.out]
            show RAt _ _ _ _ (cutD d 1 n.toNat)
            rw [HS.out, HG.out]
            exact h4
        · have HA := Lib.hid (HA.out.trans (if_pos (by rw [show rdy d 1 = ans d.off from rdy0 1 (by omega), ho]; decide)))
          rw [show rdy d 1 = 40 from by rw [show rdy d 1 = ans d.off from rdy0 1 (by omega), ho]; rfl] at HA
          rw [ho] at e4
          simp only [Bool.not_true] at e4
          clear ho
          go_wp2
          go_ret
          exact ⟨by rw [HA.out]; rfl, cs, by rw [HA.out]; exact H1.out, DStep.below HB1.out hbase⟩
    · have HA := Lib.hid (HA.out.trans (if_pos (rdy_bad hf0 hf1)))
      have hb0 : (f != 0) = true := by simp [hf0]
      have hb1 : (f != 1) = true := by simp [hf1]
      clear h hd hf0 hf1
      go_enter Tryd.func44, Tryd.ntmps44
      go_wp2
      go_ret
      exact ⟨by rw [HA.out]; rfl, cs, by rw [HA.out]; exact H.out, DStep.refl _ _ _ _⟩
end Go.Proofs.YtfinaikgikifcaaDoor.refw
/- The document's vault in memory: records in a window of a block, the box. -/
namespace Go.Proofs.YtfinaikgikifcaaDoor.vref
open Go.RowKit Go.Shelf Go.Proofs.YtfinaikgikifcaaDoorW.PrintWords Go.Proofs.YtfinaikgikifcaaDoor.base Go.Proofs.YtfinaikgikifcaaDoor.mem Go.Proofs.YtfinaikgikifcaaDoor.keep Go.Proofs.YtfinaikgikifcaaDoor.samew Go.Proofs.YtfinaikgikifcaaDoor.frameit Go.Proofs.YtfinaikgikifcaaDoor.framea Go.Proofs.YtfinaikgikifcaaDoor.framer Go.Proofs.YtfinaikgikifcaaDoor.framek Go.Proofs.YtfinaikgikifcaaDoor.diskp Go.Proofs.YtfinaikgikifcaaDoor.diskr Go.Proofs.YtfinaikgikifcaaDoor.diskw Go.Proofs.YtfinaikgikifcaaDoor.refr Go.Proofs.YtfinaikgikifcaaDoor.refw Go.Proofs.YtfinaikgikifcaaDoor.vaultp Go.Proofs.YtfinaikgikifcaaDoor.vaulta Go.Proofs.YtfinaikgikifcaaDoor.vaultr Go.Proofs.YtfinaikgikifcaaDoor.vaultl Go.Proofs.YtfinaikgikifcaaDoor.vaulto

/-- a window of a block of slices of bytes -/
structure WinV (W : World) (base : Nat) (A : Option Addr) (n c : Nat) (cells : List Value) : Prop where
  len : cells.length = n
  cap : n ≤ c
  at_ : (A = none ∧ c = 0) ∨ ∃ g off cur, A = some ⟨g, off, none⟩ ∧ base ≤ g ∧ W.heap[g]? = some (.cells cur 22 (0, 0)) ∧ off + c ≤ cur.size ∧ ∀ j v, cells[j]? = some v → cur[off + j]? = some v
section
variable {W W1 : World} {base n c : Nat} {A : Option Addr} {cells : List Value}
theorem WinV.nil (W : World) (base : Nat) : WinV W base none 0 0 [] := ⟨rfl, Nat.le_refl _, .inl ⟨rfl, rfl⟩⟩
theorem WinV.of (h : OwV W base A n c cells) : WinV W base A n c cells := by
  have hl := OwV.len h
  rcases h.2 with ⟨hv, h0⟩ | ⟨g, cap, cur, hv, h1, h2, h3, h4, h5, h6⟩
  · injection hv with e1 e2 e3
    exact ⟨hl, by omega, .inl ⟨e1, e3⟩⟩
  · injection hv with e1 e2 e3
    subst e3
    refine ⟨hl, h3, .inr ⟨g, 0, cur, e1, h1, h2, by omega, fun j v hj => ?_⟩⟩
    rw [← h6, List.getElem?_take] at hj
    split at hj
    · rw [Nat.zero_add, ← Array.getElem?_toList]
      exact hj
    · cases hj
theorem WinV.blocks (h : WinV W base A n c cells) (hb : ∀ g, (Value.slice A n c).ownBlock = some g → W1.heap[g]? = W.heap[g]?) : WinV W1 base A n c cells := by
  refine ⟨h.len, h.cap, ?_⟩
  rcases h.at_ with h0 | ⟨g, off, cur, rfl, h1, h2, h3⟩
  · exact .inl h0
  · exact .inr ⟨g, off, cur, rfl, h1, by rw [hb g rfl]; exact h2, h3⟩
theorem WinV.blk (h : WinV W base A n c cells) : ∀ j, (Value.slice A n c).ownBlock = some j → base ≤ j ∧ j < W.heap.size := by
  intro j hj
  rcases h.at_ with ⟨h0, _⟩ | ⟨g, off, cur, h0, h1, h2, h3⟩
  · subst h0; cases hj
  · subst h0; cases hj
    exact ⟨h1, (Array.getElem?_eq_some_iff.1 h2).1⟩
theorem WinV.less {b : Nat} (h : WinV W base A n c cells) (hb : b ≤ base) : WinV W b A n c cells := by
  refine ⟨h.len, h.cap, ?_⟩
  rcases h.at_ with h0 | ⟨g, off, cur, rfl, h1, h2, h3⟩
  · exact .inl h0
  · exact .inr ⟨g, off, cur, rfl, Nat.le_trans hb h1, h2, h3⟩
theorem WinV.kp {P : Nat → Prop} (h : WinV W base A n c cells) (hk : Kp P W W1) (hp : ∀ j, (Value.slice A n c).ownBlock = some j → P j) : WinV W1 base A n c cells :=
  h.blocks fun g hg => hk.2 g (hp g hg) (h.blk g hg).2
theorem WinV.below (h : WinV W base A n c cells) (hb : Below W.heap.size W W1) : WinV W1 base A n c cells := h.blocks fun g hg => hb.block g (h.blk g hg).2
theorem WinV.row (h : WinV W base A n c cells) : ∀ r, (Value.slice A n c).ownBlock = some r → ∀ cur, W.heap[r]? ≠ some (.cells cur 5 (0, 0)) := by
  intro r hr cur hc
  rcases h.at_ with ⟨h0, _⟩ | ⟨g, off, cur', h0, h1, h2, h3⟩
  · subst h0; cases hr
  · subst h0; cases hr
    rw [h2] at hc
    injection hc with hc
    injection hc with _ e2 _
    revert e2
    decide
/-- all but the first -/
theorem WinV.tail {v : Value} (h : OwV W base A (n + 1) c (v :: cells)) : ∃ A', (∀ W' : World, (Instr.slice 28 (.slice A (n + 1) c) (some (.int .i64 1)) none none).run Tryd.prog W' = .ok (.slice A' n (c - 1)) W') ∧ WinV W base A' n (c - 1) cells ∧ ∀ j, (Value.slice A' n (c - 1)).ownBlock = some j → (Value.slice A (n + 1) c).ownBlock = some j := by
  obtain ⟨i0, hi, hzz⟩ := Option.map_eq_some_iff.1 infoS
  simp only [Prod.mk.injEq] at hzz
  obtain ⟨hz0, hz1, hz2⟩ := hzz
  have hw := WinV.of h
  have hl := hw.len
  have hcp := hw.cap
  have hel : Tryd.prog.elem 28 = 22 := by kernel_rfl
  have hu : Tryd.prog.underlying 28 = some (.slice (Tryd.prog.elem 28)) := by rw [hel]; exact Tryd.underlying28
  refine ⟨if c = 1 then A else A.map (·.add 1), fun W' => ?_, ⟨by simpa using hl, by omega, ?_⟩, fun j hj => ?_⟩
  · rw [run_slice_l W' _ A (n + 1) c hu .i64 1 (by omega) (by omega), hel]
    simp [sizeOf, typeInfo, hi, hz1, sliced, Result.andThen]
  · rcases hw.at_ with ⟨h0, h1⟩ | ⟨g, off, cur, h0, h1, h2, h3, h4⟩
    · omega
    · subst h0
      by_cases hc : c = 1
      · rw [if_pos hc]
        subst hc
        obtain rfl : n = 0 := by omega
        obtain rfl : cells = [] := List.eq_nil_of_length_eq_zero (by simpa using hl)
        exact .inr ⟨g, off, cur, rfl, h1, h2, by omega, fun j v hj => by simp at hj⟩
      · rw [if_neg hc]
        refine .inr ⟨g, off + 1, cur, rfl, h1, h2, by omega, fun j v hj => ?_⟩
        have := h4 (j + 1) v (by simpa using hj)
        rw [show off + 1 + j = off + (j + 1) from by omega]
        exact this
  · rcases hw.at_ with ⟨h0, h1⟩ | ⟨g, off, cur, h0, h1, h2, h3, h4⟩
    · omega
    · subst h0
      by_cases hc : c = 1
      · rw [if_pos hc] at hj; exact hj
      · rw [if_neg hc] at hj; exact hj
theorem WinV.rd {xss : List (List Int)} (h : WinV W base A n c cells) (hr : RowsOf W cells xss) (hn : n ≤ 9223372036854775807) : RdBB W A n xss := by
  have hl := h.len
  refine ⟨by rw [← hr.1, hl], hn, fun h0 => ?_⟩
  rcases h.at_ with ⟨_, h1⟩ | ⟨g, off, cur, rfl, h1, h2, h3, h4⟩
  · have := h.cap; omega
  · refine ⟨_, rfl, fun j hj => ?_⟩
    obtain ⟨a, m, c', e1, e2, e3⟩ := hr.2 j (by rw [← hr.1, hl]; exact hj)
    refine ⟨a, m, c', ?_, e2, e3⟩
    rw [Addr.add_lit]
    unfold World.cell?
    rw [h2]
    exact h4 j _ e1
end
/-- one slice more, in its place or behind a copy -/
theorem run_appW {W : World} {base n c : Nat} {A : Option Addr} {cells : List Value} (ty : TypeId) (h : WinV W base A n c cells) (ad : Addr) (e : Nat) (v : Value) (hv1 : v.oneCell' = true) (hv : W.cell? ad = some v) (hbase : base ≤ W.heap.size) (hl : (n + 1) * 24 ≤ 140737488355328) :
    ∃ A1 c1 w1, (Builtin.append_ #[28, 28] ty #[.slice A n c, .slice (some ad) 1 e]).run Tryd.prog W = .ok (.slice A1 (n + 1) c1) w1 ∧ WinV w1 base A1 (n + 1) c1 (cells ++ [v]) ∧ W.grownBy w1 (Value.slice A n c).ownBlock ∧ (∀ j, (Value.slice A1 (n + 1) c1).ownBlock = some j → (Value.slice A n c).ownBlock = some j ∨ W.heap.size ≤ j) := by
  obtain ⟨i0, hi, hzz⟩ := Option.map_eq_some_iff.1 infoS
  simp only [Prod.mk.injEq] at hzz
  obtain ⟨hz0, hz1, hz2⟩ := hzz
  have hn1 : ∀ j u, [v][j]? = some u → W.cell? (ad.add j) = some u := by
    intro j u hj
    have hlt := (List.getElem?_eq_some_iff.1 hj).1
    obtain rfl : j = 0 := by simpa using hlt
    obtain rfl : v = u := by simpa using hj
    rw [Addr.add_zero']; exact hv
  rcases h.at_ with ⟨rfl, rfl⟩ | ⟨g, off, cur, rfl, h1, h2, h3, h4⟩
  · obtain rfl : n = 0 := by have := h.cap; omega
    obtain rfl : cells = [] := List.eq_nil_of_length_eq_zero h.len
    obtain ⟨v1, w1, hr, k2, k3, k4, k5⟩ := run_append_own_at (P := Tryd.prog) W base 28 ty 22 i0 (.slice none 0 0) 1 24 Tryd.underlying28 hi hz0 hz1 hz2 rfl (by omega) (.slice none 0 0) 0 [] (OwV.nil W base) ad 1 e [v] rfl hn1 (by intro u hu; rw [List.mem_singleton] at hu; subst hu; exact hv1) (by simp [maxLen]) (by omega) hbase
    obtain ⟨A1, c1, rfl⟩ := own_slice k2
    refine ⟨A1, c1, w1, hr, WinV.of k2, k3, fun j hj => ?_⟩
    rcases k5 with e | e
    · exact .inl (e.symm.trans hj)
    · rw [e] at hj; cases hj; exact .inr (Nat.le_refl _)
  · by_cases hroom : n + 1 ≤ c
    · have hsz : off + n < cur.size := by omega
      have hr := run_append_room_cells (P := Tryd.prog) W 28 ty 22 i0 Tryd.underlying28 hi g off n c ad 1 e [v] (by rw [hz1]; rfl) hn1 (by intro u hu; rw [List.mem_singleton] at hu; subst hu; exact hv1) hroom
        (by
          intro j hj
          obtain rfl : j = 0 := by simpa using hj
          rw [hz1, Nat.mul_one]
          unfold World.cell?
          simp [h2, hsz])
        (by
          intro j hj
          unfold World.frozen?
          simp [h2])
      rw [hz1, Nat.mul_one] at hr
      have hset : W.setCells g (off + n) [v] = W.setCell ⟨g, off + n, none⟩ v := rfl
      rw [hset] at hr
      refine ⟨_, c, _, hr, ⟨by simp [h.len], hroom, .inr ⟨g, off, cur.setIfInBounds (off + n) v, rfl, h1, ?_, by simpa using h3, fun j u hj => ?_⟩⟩, ?_, fun j hj => .inl hj⟩
      · have := box_put (t := 22) h2 (off + n) v
        exact this
      · rcases Nat.lt_or_ge j cells.length with hlt | hge
        · rw [List.getElem?_append_left hlt] at hj
          rw [Array.getElem?_setIfInBounds_ne (by have := h.len; omega)]
          exact h4 j u hj
        · rw [List.getElem?_append_right hge] at hj
          have hlt := (List.getElem?_eq_some_iff.1 hj).1
          have : j - cells.length = 0 := by simpa using hlt
          rw [this] at hj
          obtain rfl : v = u := by simpa using hj
          obtain rfl : j = n := by have := h.len; omega
          rw [Array.getElem?_setIfInBounds_self_of_lt hsz]
      · refine ⟨rfl, rfl, rfl, by simp [World.setCell], fun k hk hne => ?_⟩
        exact Below.heap_setCell _ _ _ _ (fun e => hne (by rw [e]; rfl))
    · obtain rfl : c = n := by have := h.cap; omega
      obtain ⟨v1, w1, hr, ho, hg⟩ := run_append_arg_grows (P := Tryd.prog) (w := W) 28 ty 22 i0 (.slice none 0 0) 1 24 Tryd.underlying28 hi hz0 hz1 hz2 rfl (by decide) ⟨g, off, none⟩ c c cells (by rw [h.len]; omega)
        (by
          intro j u hj
          rw [Addr.add_lit]
          unfold World.cell?
          rw [h2]
          exact h4 j u hj) ad 1 e [v] rfl hn1 (by omega) (by unfold maxLen; omega) hl
      obtain ⟨A1, c1, rfl⟩ := own_slice ho
      have hO : OwV w1 W.heap.size A1 (c + 1) c1 (cells ++ [v]) := ho
      refine ⟨A1, c1, w1, hr, (WinV.of hO).less hbase, ⟨hg.os, hg.tape, hg.output, hg.size, fun k hk _ => hg.block k hk (by simp)⟩, fun j hj => .inr (OwV.blk hO j hj).1⟩
/-- records of the document's vault -/
structure RecW (P : Nat → Prop) (W : World) (base : Nat) (A : Option Addr) (n c : Nat) (cells : List Value) (xss : List (List Int)) : Prop where
  rows : WinV W base A n c cells
  head : ∀ j, (Value.slice A n c).ownBlock = some j → P j
  each : Rws W base cells xss
  lies : ∀ (i j : Nat) (a : Option Addr) (n c : Nat), cells[i]? = some (Value.slice a n c) → (Value.slice a n c).ownBlock = some j → P j
section
variable {P Q : Nat → Prop} {W W1 : World} {base n c : Nat} {A : Option Addr} {xs : List Int} {cells : List Value} {xss : List (List Int)}
theorem RecW.nil (P : Nat → Prop) (W : World) (base : Nat) : RecW P W base none 0 0 [] [] := ⟨WinV.nil _ _, (fun j hj => by cases hj), Rws.nil _ _, (fun i j a n c hi => by simp at hi)⟩
theorem RecW.kp (h : RecW P W base A n c cells xss) (hk : Kp P W W1) : RecW P W1 base A n c cells xss := by
  refine ⟨h.rows.kp hk h.head, h.head, ⟨h.each.len, fun j hj => ?_, h.each.apart⟩, h.lies⟩
  obtain ⟨a, m', c', e', ho⟩ := h.each.at_ j hj
  exact ⟨a, m', c', e', own_kp ho hk fun i hi => h.lies j i a m' c' e' hi⟩
theorem RecW.below (h : RecW P W base A n c cells xss) (hb : Below W.heap.size W W1) : RecW P W1 base A n c cells xss :=
  ⟨h.rows.below hb, h.head, h.each.map fun _ _ _ _ ho => ho.below hb, h.lies⟩
theorem RecW.mono (h : RecW P W base A n c cells xss) (hq : ∀ j, base ≤ j → j < W.heap.size → P j → Q j) : RecW Q W base A n c cells xss :=
  ⟨h.rows, fun j hj => hq j (h.rows.blk j hj).1 (h.rows.blk j hj).2 (h.head j hj), h.each, fun i j a n c hi hj => by
    obtain ⟨a', m', c', e', ho⟩ := h.each.at_ i (by rw [← h.each.len]; exact (List.getElem?_eq_some_iff.1 hi).1)
    have e2 := e'
    rw [hi] at e2
    cases e2
    exact hq j (OwB.blk ho j hj).1 (OwB.blk ho j hj).2 (h.lies i j _ _ _ hi hj)⟩
theorem RecW.step (h : RecW P W base A n c cells xss) (hk : Kp P W W1) (hq : ∀ j, j < W.heap.size → P j → Q j) : RecW Q W1 base A n c cells xss :=
  ((h.mono (Q := fun j => P j ∧ j < W.heap.size) fun j _ hj hp => ⟨hp, hj⟩).kp (hk.mono fun _ _ h => h.1)).mono fun j _ _ h => hq j h.2 h.1
theorem RecW.rd (h : RecW P W base A n c cells xss) (hn : n ≤ 9223372036854775807) : RdBB W A n xss := h.rows.rd h.each.of hn
theorem RecW.len (h : RecW P W base A n c cells xss) : n = xss.length := by rw [← h.each.len]; exact h.rows.len.symm
/-- a record more -/
theorem RecW.snoc {W0 W2 : World} (h0 : RecW P W0 base A n c cells xss) (h : RecW P W base A n c cells xss) {B a : Option Addr} {b m e m2 e2 : Nat} {ys : List Int} (hy : OwB W b a m e ys) (hb : base ≤ b) (hB : W0.heap.size ≤ b)
    (ho : WinV W2 base B m2 e2 (cells ++ [.slice a m e])) (hg : W.grownBy W2 (Value.slice A n c).ownBlock) (hob : ∀ j, (Value.slice B m2 e2).ownBlock = some j → (Value.slice A n c).ownBlock = some j ∨ W.heap.size ≤ j) (hp : ∀ j, b ≤ j → P j) (hWb : b ≤ W.heap.size) :
    RecW P W2 base B m2 e2 (cells ++ [.slice a m e]) (xss ++ [ys]) := by
  have hk : ∀ a m c ys b, OwB W b a m c ys → OwB W2 b a m c ys := fun a m c ys b hx => OwB.keptT hx hg h.rows.row
  refine ⟨ho, fun j hj => ?_, Rws.snoc h0.each (h.each.map fun a m c ys hx => hk a m c ys _ hx) hB hb (hk _ _ _ _ _ hy), fun i j a' n' c' hi hj => ?_⟩
  · rcases hob j hj with h1 | h1
    · exact h.head j h1
    · exact hp j (by omega)
  · rcases Nat.lt_or_ge i cells.length with hl | hl
    · rw [List.getElem?_append_left hl] at hi
      exact h.lies i j a' n' c' hi hj
    · rw [List.getElem?_append_right hl] at hi
      have : i - cells.length = 0 := by
        have := (List.getElem?_eq_some_iff.1 hi).1
        simp at this
        omega
      rw [this] at hi
      simp at hi
      obtain ⟨rfl, rfl, rfl⟩ := hi
      exact hp j (OwB.blk hy j hj).1
end
section
variable {ops : Array Oper} {o : Oper} {a : Act} {K : Act → World → Prop} {Q : Exit → Act → World → Prop} {R : Prop}
/-- append of one slice in a region that draws its order -/
theorem stepAppW {W : World} {base : Nat} (hgd : o.guard = none) (s x : Operand)
    (ho : o.op = .call { callee := .builtin .append, args := #[s, x], argTypes := #[28, 28] })
    {A : Option Addr} {n c : Nat} {cells : List Value} {ad : Addr} {e : Nat} {v : Value} (hs : a.eval s = .slice A n c) (hx : a.eval x = .slice (some ad) 1 e)
    (HO : WinV W base A n c cells) (hv1 : v.oneCell' = true) (hv : W.cell? ad = some v) (hbase : base ≤ W.heap.size) (hl : (n + 1) * 24 ≤ 140737488355328)
    (h : ∀ A1 c1 w1, WinV w1 base A1 (n + 1) c1 (cells ++ [v]) → W.grownBy w1 (Value.slice A n c).ownBlock → (∀ j, (Value.slice A1 (n + 1) c1).ownBlock = some j → (Value.slice A n c).ownBlock = some j ∨ W.heap.size ≤ j) → K (a.put o.dst (.slice A1 (n + 1) c1)) w1) :
    if Region.wanted o (yielded ops a.tmps) = true then Oper.wp Tryd.prog o a W K Q else R := by
  have hw : Region.wanted o (yielded ops a.tmps) = true := by simp [Region.wanted, hgd]
  rw [if_pos hw]
  obtain ⟨A1, c1, w1, hrun, h1, h2, h3⟩ := run_appW o.type HO ad e v hv1 hv hbase hl
  unfold Oper.wp execOp
  simp only [ho, resolve, invoke, builtin, Sem.run_bind, Sem.run_pure, Result.andThen_ok, List.map_toArray, List.map_cons, List.map_nil, hs, hx, hrun]
  exact h A1 c1 w1 h1 h2 h3
end
/-- the box of the document's vault -/
structure RB (W : World) (q p : Nat) (f g : Int) (A : Option Addr) (n c : Nat) (B : Option Addr) (m e : Nat) (s : Int) : Prop where
  box : W.heap[q]? = some (.cells #[.pointer (some ⟨p, 0, none⟩), .int .i64 f, .int .i64 g, .slice A n c, .slice B m e, .int .i64 s] 55 (0, 0))
section
variable {W W1 : World} {q p n c m e : Nat} {f g s : Int} {A B : Option Addr}
theorem RB.lt (h : RB W q p f g A n c B m e s) : q < W.heap.size := (Array.getElem?_eq_some_iff.1 h.box).1
theorem RB.block (h : RB W q p f g A n c B m e s) (hb : W1.heap[q]? = W.heap[q]?) : RB W1 q p f g A n c B m e s := ⟨hb.trans h.box⟩
theorem RB.below (h : RB W q p f g A n c B m e s) (hb : Below W.heap.size W W1) : RB W1 q p f g A n c B m e s := h.block (hb.block q h.lt)
theorem RB.kept {Q : Nat → Prop} (h : RB W q p f g A n c B m e s) (hk : Kp Q W W1) (hq : Q q) : RB W1 q p f g A n c B m e s := h.block (hk.2 q hq h.lt)
theorem RB.cells (h : RB W q p f g A n c B m e s) : W.cell? ⟨q, 0, none⟩ = some (.pointer (some ⟨p, 0, none⟩)) ∧ W.cell? ⟨q, 1, none⟩ = some (.int .i64 f) ∧ W.cell? ⟨q, 2, none⟩ = some (.int .i64 g) ∧ W.cell? ⟨q, 3, none⟩ = some (.slice A n c) ∧ W.cell? ⟨q, 4, none⟩ = some (.slice B m e) ∧ W.cell? ⟨q, 5, none⟩ = some (.int .i64 s) := by
  unfold World.cell?
  simp [h.box]
theorem RB.free (h : RB W q p f g A n c B m e s) (i : Nat) : W.frozen? ⟨q, i, none⟩ = false := by
  unfold World.frozen?
  simp [h.box]
theorem RB.put (h : RB W q p f g A n c B m e s) (i : Nat) (x : Value) : (W.setCell ⟨q, i, none⟩ x).heap[q]? = some (.cells (#[.pointer (some ⟨p, 0, none⟩), .int .i64 f, .int .i64 g, .slice A n c, .slice B m e, .int .i64 s].setIfInBounds i x) 55 (0, 0)) := box_put h.box i x
end
theorem RAt.vset {w : World} {base p q : Nat} {cs : Nat → Sl} {d : D} (h : RAt w base p cs d) (hq : ¬ Ft p cs q) (i : Nat) (x : Value) : RAt (w.setCell ⟨q, i, none⟩ x) base p cs d :=
  h.blocks fun g hg => Below.heap_setCell _ _ _ _ (fun e => hq (by have e : g = q := e; rw [← e]; exact hg))
end Go.Proofs.YtfinaikgikifcaaDoor.vref
/- What the document's Look computes. -/
namespace Go.Proofs.YtfinaikgikifcaaDoor.vref
open Go.RowKit Go.Shelf Go.Proofs.YtfinaikgikifcaaDoorW.PrintWords Go.Proofs.YtfinaikgikifcaaDoor.base Go.Proofs.YtfinaikgikifcaaDoor.mem Go.Proofs.YtfinaikgikifcaaDoor.keep Go.Proofs.YtfinaikgikifcaaDoor.samew Go.Proofs.YtfinaikgikifcaaDoor.framep Go.Proofs.YtfinaikgikifcaaDoor.frameit Go.Proofs.YtfinaikgikifcaaDoor.framel Go.Proofs.YtfinaikgikifcaaDoor.framem Go.Proofs.YtfinaikgikifcaaDoor.framea Go.Proofs.YtfinaikgikifcaaDoor.framer Go.Proofs.YtfinaikgikifcaaDoor.framek Go.Proofs.YtfinaikgikifcaaDoor.framen Go.Proofs.YtfinaikgikifcaaDoor.diskp Go.Proofs.YtfinaikgikifcaaDoor.diskr Go.Proofs.YtfinaikgikifcaaDoor.diskw Go.Proofs.YtfinaikgikifcaaDoor.refr Go.Proofs.YtfinaikgikifcaaDoor.refw Go.Proofs.YtfinaikgikifcaaDoor.vaultp Go.Proofs.YtfinaikgikifcaaDoor.vaulta Go.Proofs.YtfinaikgikifcaaDoor.vaultr Go.Proofs.YtfinaikgikifcaaDoor.vaultl Go.Proofs.YtfinaikgikifcaaDoor.vaulto

/-- a snapshot cut out of a slice of the call's own -/
structure SnapW (P : Nat → Prop) (W : World) (base : Nat) (A : Option Addr) (n c : Nat) (xs : List Int) : Prop where
  of : ∃ (k : Nat) (A0 : Option Addr) (n0 c0 : Nat) (ys : List Int), OwB W base A0 n0 c0 ys ∧ (∀ (W' : World) (zs : List Int), RdB W' A0 n0 zs → RdB W' A n (zs.drop k)) ∧ xs = ys.drop k ∧ n ≤ c ∧ ∀ j, (Value.slice A0 n0 c0).ownBlock = some j → P j
section
variable {P Q : Nat → Prop} {W W1 : World} {base n c : Nat} {A : Option Addr} {xs : List Int}
theorem SnapW.snap (h : Snap W base A n c xs) : SnapW (fun j => base ≤ j ∧ j < W.heap.size) W base A n c xs := by
  obtain ⟨k, A0, n0, c0, ys, q1, q2, q3, q4⟩ := h
  exact ⟨k, A0, n0, c0, ys, q1, q2, q3, q4, fun j hj => OwB.blk q1 j hj⟩
theorem SnapW.own (h : OwB W base A n c xs) (hp : ∀ j, base ≤ j → j < W.heap.size → P j) : SnapW P W base A n c xs := ⟨0, A, n, c, xs, h, fun _ _ h => h, rfl, h.cap, fun j hj => hp j (OwB.blk h j hj).1 (OwB.blk h j hj).2⟩
theorem SnapW.mono (h : SnapW P W base A n c xs) (hq : ∀ j, base ≤ j → j < W.heap.size → P j → Q j) : SnapW Q W base A n c xs := by
  obtain ⟨k, A0, n0, c0, ys, q1, q2, q3, q4, q5⟩ := h.of
  exact ⟨k, A0, n0, c0, ys, q1, q2, q3, q4, fun j hj => hq j (OwB.blk q1 j hj).1 (OwB.blk q1 j hj).2 (q5 j hj)⟩
theorem SnapW.map (h : SnapW P W base A n c xs) (hw : ∀ a m c ys, OwB W base a m c ys → OwB W1 base a m c ys) : SnapW P W1 base A n c xs := by
  obtain ⟨k, A0, n0, c0, ys, q1, q2, q3, q4, q5⟩ := h.of
  exact ⟨k, A0, n0, c0, ys, hw _ _ _ _ q1, q2, q3, q4, q5⟩
theorem SnapW.less {b : Nat} (h : SnapW P W base A n c xs) (hb : b ≤ base) : SnapW P W b A n c xs := by
  obtain ⟨k, A0, n0, c0, ys, q1, q2, q3, q4, q5⟩ := h.of
  exact ⟨k, A0, n0, c0, ys, q1.less hb, q2, q3, q4, q5⟩
theorem SnapW.below (h : SnapW P W base A n c xs) (hb : Below W.heap.size W W1) : SnapW P W1 base A n c xs := h.map fun _ _ _ _ ho => ho.below hb
theorem SnapW.kp (h : SnapW P W base A n c xs) (hk : Kp P W W1) : SnapW P W1 base A n c xs := by
  obtain ⟨k, A0, n0, c0, ys, q1, q2, q3, q4, q5⟩ := h.of
  exact ⟨k, A0, n0, c0, ys, own_kp q1 hk q5, q2, q3, q4, q5⟩
theorem SnapW.step (h : SnapW P W base A n c xs) (hk : Kp P W W1) (hq : ∀ j, j < W.heap.size → P j → Q j) : SnapW Q W1 base A n c xs :=
  ((h.mono (Q := fun j => P j ∧ j < W.heap.size) fun j _ hj hp => ⟨hp, hj⟩).kp (hk.mono fun _ _ h => h.1)).mono fun j _ _ h => hq j h.2 h.1
theorem SnapW.rd (h : SnapW P W base A n c xs) : RdB W A n xs := by
  obtain ⟨k, A0, n0, c0, ys, q1, q2, rfl, _⟩ := h.of
  exact q2 W ys q1.rd
theorem SnapW.cap (h : SnapW P W base A n c xs) : n ≤ c := by
  obtain ⟨k, A0, n0, c0, ys, q1, q2, q3, q4, _⟩ := h.of
  exact q4
theorem RecW.win {B : Option Addr} {m e : Nat} {cells : List Value} {xss : List (List Int)} (h2 : WinV W base B m e cells) (h3 : Rws W base cells xss) : RecW (fun j => base ≤ j ∧ j < W.heap.size) W base B m e cells xss := by
  refine ⟨h2, fun j hj => h2.blk j hj, h3, fun i j a n c hi hj => ?_⟩
  obtain ⟨a', m', c', e', ho⟩ := h3.at_ i (by rw [← h3.len]; exact (List.getElem?_eq_some_iff.1 hi).1)
  rw [hi] at e'
  cases e'
  exact OwB.blk ho j hj
theorem RecW.less {b : Nat} {B : Option Addr} {m e : Nat} {cells : List Value} {xss : List (List Int)} (h : RecW P W base B m e cells xss) (hb : b ≤ base) : RecW P W b B m e cells xss := by
  refine ⟨h.rows.less hb, h.head, ⟨h.each.len, fun j hj => ?_, h.each.apart⟩, h.lies⟩
  obtain ⟨a, m', c', e', ho⟩ := h.each.at_ j hj
  exact ⟨a, m', c', e', ho.less hb⟩
end
/-- the number of the last of eight bytes down -/
def hP (xs : List Int) : Nat → Int
  | 0 => 0
  | j + 1 => hP xs j * 256 + xs.getD (7 - j) 0
theorem hP_range {xs : List Int} (h : By xs) : ∀ k, 0 ≤ hP xs k ∧ hP xs k < 256 ^ k
  | 0 => ⟨by simp [hP], by simp [hP]⟩
  | k + 1 => by
    obtain ⟨h0, h1⟩ := hP_range h k
    obtain ⟨b0, b1⟩ := By.getD h (7 - k)
    rw [Int.pow_succ]
    unfold hP
    omega
theorem hP_8 (xs : List Int) : hP xs 8 = leN xs := by
  unfold leN
  simp only [hP, leP, Nat.reduceSub, Nat.sub_self, Nat.sub_zero]
  omega
theorem or_8 (x b : Int) (hx0 : 0 ≤ x) (hx : x < 256 ^ 7) (hb0 : 0 ≤ b) (hb : b ≤ 255) : Go.bits .or .u64 (x * 256) b = x * 256 + b :=
  bits_join .u64 64 (by decide) (fun n h0 h1 => by rw [IntKind.wrap_u64]; omega) 8 (x * 256) b (by omega) (by omega) (by omega) hb0 (by omega) (by omega)
def RetL (w : World) (xs : List Int) (e : Ending) (w' : World) : Prop :=
  ∃ A n c B m c2 cells, e = .returned (.tuple #[.int .i64 (lookF xs).1, .slice A n c, .slice B m c2, .int .i64 (E xs : Nat)]) ∧ Snap w' w.heap.size A n c (lookF xs).2.1 ∧ WinV w' w.heap.size B m c2 cells ∧ Rws w' w.heap.size cells (lookF xs).2.2 ∧ Below w.heap.size w w'
set_option maxHeartbeats 2000000 in
set_option maxRecDepth 100000 in
theorem rlook_any (A : Option Addr) (n c : Nat) (xs : List Int) (w : World) (hr : RdB w A n xs) (hc : n ≤ c) (hn : n ≤ 8796093022208) :
    Calls Tryd.prog 45 #[.slice A n c] w (RetL w xs) := by
  have HA := Lib.hid (refall_any A n c xs w hr hc hn)
  rw [pays_P, end_E] at HA
  have HLK : Hid (lookF xs = lookP (P xs)) := Lib.hid rfl
  clear hr
  go_enter Tryd.func45, Tryd.ntmps45
  go_wp2_with fail
  refine HA.out.mono ?_
  rintro e w3 ⟨A1, n1, c1, cells, rfl, ho, hrw, hb⟩
  have HO := Lib.hid ho
  have HRW := Lib.hid hrw
  have HB := Lib.hid hb
  have hl1 := ho.len
  have hl2 := hrw.len
  obtain ⟨en, hen⟩ : ∃ en, E xs = en := ⟨_, rfl⟩
  have HEN := Lib.hid hen
  rw [hen]
  clear ho hrw hb HA hen
  obtain ⟨ps, hps⟩ : ∃ ps, P xs = ps := ⟨_, rfl⟩
  rw [hps] at HLK HRW hl2
  clear hps
  cases ps with
  | nil =>
    obtain rfl : n1 = 0 := by simp at hl2; rw [hl2] at hl1; simpa using hl1.symm
    clear hl1 hl2
    go_wp2
    refine bodyPost_ret (results_tmp4 rfl _ _ _) rfl ?_
    have HX : lookF xs = (0, [], []) := HLK.out
    unfold RetL
    rw [HX, HEN.out]
    exact ⟨none, 0, 0, none, 0, 0, [], rfl, Snap.own (OwB.nil _ _), WinV.nil _ _, Rws.nil _ _, HB.out⟩
  | cons p r =>
    obtain ⟨v, cells', rfl⟩ : ∃ v r, cells = v :: r := by
      cases cells with
      | nil => simp at hl2
      | cons v r => exact ⟨v, r, rfl⟩
    obtain ⟨a, m, cc, hv, hown⟩ := HRW.out.at_ 0 (by simp)
    obtain rfl : v = .slice a m cc := by simpa using hv
    have HOW : Hid (OwB w3 w.heap.size a m cc p) := Lib.hid (by simpa using hown)
    have HR0 : Hid (Rws w3 w.heap.size cells' r) := Lib.hid ⟨by simpa using HRW.out.len, fun j hj => by
      obtain ⟨a', m', c', h1, h2⟩ := HRW.out.at_ (j + 1) (by simpa using hj)
      exact ⟨a', m', c', by simpa using h1, by simpa using h2⟩, fun i j g a m c a' m' c' hi hj h1 h2 => by
      have := HRW.out.apart (i + 1) (j + 1) g a m c a' m' c' (by simpa using hi) (by simpa using hj) h1 h2
      omega⟩
    obtain ⟨k, rfl⟩ : ∃ k, n1 = k + 1 := ⟨n1 - 1, by simp at hl1; omega⟩
    obtain ⟨g1, rfl⟩ := OwV.form HO.out (by omega)
    have hc0 := (OwV.at_ HO.out 0 (v := .slice a m cc) rfl).1
    have hml := HOW.out.len
    have hmc := HOW.out.cap
    clear hv hown hl1 hl2 HRW
    by_cases h8 : m < 8
    · have HX : Hid (lookF xs = (0, [], [])) := Lib.hid (HLK.out.trans (lookP_bad r fun h => by have := h.1; omega))
      have hk0 : ((k : Int) + 1 == 0) = false := beq_eq_false_iff_ne.2 (by omega)
      have hm8 : decide ((m : Int) < 8) = true := decide_eq_true (by omega)
      go_wp2
      refine bodyPost_ret (results_tmp4 rfl _ _ _) rfl ?_
      unfold RetL
      rw [HX.out, HEN.out]
      exact ⟨none, 0, 0, none, 0, 0, [], rfl, Snap.own (OwB.nil _ _), WinV.nil _ _, Rws.nil _ _, HB.out⟩
    · obtain ⟨g2, rfl⟩ : ∃ g2, a = some ⟨g2, 0, none⟩ := by
        obtain ⟨g, e, _⟩ := OwB.form HOW.out (show 0 < m by omega)
        exact ⟨g, e⟩
      have HBY := Lib.hid HOW.out.2
      have HCELL := Lib.hid (fun i hi => (HOW.out.at_ i hi).1)
      have hk0 : ((k : Int) + 1 == 0) = false := beq_eq_false_iff_ne.2 (by omega)
      have hm8 : decide ((m : Int) < 8) = false := decide_eq_false (by omega)
      go_wp2
      go_loop [8, 9] (fun x i => ∃ y : Int, x = .int .u64 y ∧ 0 ≤ y ∧ ((∃ j : Nat, j ≤ 7 ∧ i = .int .i64 j ∧ Aside0 (y = hP p (7 - j))) ∨ (i = .int .i64 (-1) ∧ Aside0 (y = leN p)))) (fun _ i => (intOf i + 1).toNat)
      case atStart => exact ⟨0, rfl, by omega, .inl ⟨7, by omega, rfl, ⟨rfl⟩⟩⟩
      case round =>
        obtain ⟨y, rfl, hy0, ⟨j, hj, rfl, HY⟩ | ⟨rfl, HY⟩⟩ := hrel
        · have hcj := HCELL.out j (by omega)
          have hbd := By.getD HBY.out j
          have HOR := Lib.hid (or_8 y (p.getD j 0) hy0 (by
            rw [HY.out]
            exact Int.lt_of_lt_of_le (hP_range HBY.out (7 - j)).2 (by
              have := Nat.pow_le_pow_right (n := 256) (by decide) (show 7 - j ≤ 7 by omega)
              exact_mod_cast this)) hbd.1 hbd.2)
          have HS : Hid (hP p (7 - j + 1) = hP p (7 - j) * 256 + p.getD j 0) := Lib.hid (by show _ * 256 + p.getD (7 - (7 - j)) 0 = _; rw [show 7 - (7 - j) = j from by omega])
          generalize p.getD j 0 = b at hcj hbd HOR HS
          have hjm : j < m := by omega
          have hy1 : y < 72057594037927936 := by
            have h7 : y < 256 ^ 7 := by
              rw [HY.out]
              exact Int.lt_of_lt_of_le (hP_range HBY.out (7 - j)).2 (by
                have := Nat.pow_le_pow_right (n := 256) (by decide) (show 7 - j ≤ 7 by omega)
                exact_mod_cast this)
            omega
          go_wp2
          rw [HOR.out]
          go_round
          case rel =>
            refine ⟨y * 256 + b, by go_num, by omega, ?_⟩
            rcases Nat.eq_zero_or_pos j with h0 | h0
            · subst h0
              exact .inr ⟨by go_num, ⟨by rw [← hP_8, show (8 : Nat) = 7 - 0 + 1 from rfl, HS.out, ← HY.out]⟩⟩
            · exact .inl ⟨j - 1, by omega, by go_num, ⟨by rw [show 7 - (j - 1) = 7 - j + 1 from by omega, HS.out, ← HY.out]⟩⟩
          case measure => first | (simp [intOf]; done) | (simp [intOf]; omega)
        · have hY := HY.out
          by_cases hbad : y < 1 ∨ 4611686018427387904 < y
          · have HX : Hid (lookF xs = (0, [], [])) := Lib.hid (HLK.out.trans (lookP_bad r fun h => by have h1 := h.2.1; have h2 := h.2.2; omega))
            clear hY
            go_wp2
            all_goals refine bodyPost_ret (results_tmp4 rfl _ _ _) rfl ?_
            all_goals unfold RetL
            all_goals rw [HX.out, HEN.out]
            all_goals exact ⟨none, 0, 0, none, 0, 0, [], rfl, Snap.own (OwB.nil _ _), WinV.nil _ _, Rws.nil _ _, HB.out⟩
          · have HX : Hid (lookF xs = (leN p, p.drop 8, r)) := Lib.hid (HLK.out.trans (lookP_good r ⟨by omega, by omega, by omega⟩))
            have hb1 : decide (y < 1) = false := decide_eq_false (by omega)
            have hb2 : decide ((4611686018427387904 : Int) < y) = false := decide_eq_false (by omega)
            have HYY := Lib.hid hY
            have hya : 1 ≤ y := by omega
            have hyb : y ≤ 4611686018427387904 := by omega
            obtain ⟨A7, n7, c7, hcut, hm1, hm2, hm3, hrd⟩ := cutL (some ⟨g2, 0, none⟩) m cc 8 (by omega) hmc
            have hcut : ∀ W : World, (Instr.slice 22 (.slice (some ⟨g2, 0, none⟩) m cc) (some (.int .i64 8)) none none).run Tryd.prog W = .ok (.slice A7 n7 c7) W := hcut
            obtain ⟨A8, hcut8, hwin, _⟩ := WinV.tail (n := k) HO.out
            have hk1 : ((k + 1 : Nat) : Int) = (k : Int) + 1 := by omega
            have HSN : Hid (Snap w3 w.heap.size A7 n7 c7 (p.drop 8)) := Lib.hid ⟨8, _, m, cc, p, HOW.out, hrd, rfl, hm3⟩
            have HWN := Lib.hid hwin
            clear hY hbad hrd hwin hm1 hm2
            go_wp2
            go_quiet (fail)
            go_wp2
            refine bodyPost_ret (results_tmp4 rfl _ _ _) rfl ?_
            unfold RetL
            rw [HX.out, HEN.out]
            have BN := fun q => pw_below_drewN (Below.refl w3.heap.size w3) q
            exact ⟨A7, n7, c7, A8, k, c1 - 1, cells', by rw [← HYY.out]; rfl, HSN.out.below (BN _), HWN.out.below (BN _), HR0.out.map fun a m c ys h => h.below (BN _), pw_below_drewN HB.out _⟩
end Go.Proofs.YtfinaikgikifcaaDoor.vref
/- The document's vault beside its disk: what it is, what a call leaves. -/
namespace Go.Proofs.YtfinaikgikifcaaDoor.vref
open Go.RowKit Go.Shelf Go.Proofs.YtfinaikgikifcaaDoorW.PrintWords Go.Proofs.YtfinaikgikifcaaDoor.base Go.Proofs.YtfinaikgikifcaaDoor.mem Go.Proofs.YtfinaikgikifcaaDoor.keep Go.Proofs.YtfinaikgikifcaaDoor.samew Go.Proofs.YtfinaikgikifcaaDoor.frameit Go.Proofs.YtfinaikgikifcaaDoor.framea Go.Proofs.YtfinaikgikifcaaDoor.framer Go.Proofs.YtfinaikgikifcaaDoor.framek Go.Proofs.YtfinaikgikifcaaDoor.diskp Go.Proofs.YtfinaikgikifcaaDoor.diskr Go.Proofs.YtfinaikgikifcaaDoor.diskw Go.Proofs.YtfinaikgikifcaaDoor.refr Go.Proofs.YtfinaikgikifcaaDoor.refw Go.Proofs.YtfinaikgikifcaaDoor.vaultp Go.Proofs.YtfinaikgikifcaaDoor.vaulta Go.Proofs.YtfinaikgikifcaaDoor.vaultr Go.Proofs.YtfinaikgikifcaaDoor.vaultl Go.Proofs.YtfinaikgikifcaaDoor.vaulto

/-- the document's vault in block q, its disk in block p, its bytes in blocks of P -/
structure RVs (w : World) (base p q : Nat) (cs : Nat → Sl) (P : Nat → Prop) (d : D) (v : Vn) (s : List Int) (rs : List (List Int)) : Prop where
  at_ : RAt w base p cs d
  ex : ∃ A n c B m e cells, RB w q p v.f v.g A n c B m e v.s ∧ SnapW P w base A n c s ∧ RecW P w base B m e cells rs
  hq : base ≤ q
  nq : ¬ Ft p cs q
  hP : ∀ i, P i → ¬ Ft p cs i ∧ i ≠ q
/-- behind a step of it -/
structure RVt (w : World) (base p q : Nat) (cs : Nat → Sl) (P : Nat → Prop) (w' : World) (cs' : Nat → Sl) (P' : Nat → Prop) : Prop where
  keep : Kp (fun i => ¬ Ft p cs i ∧ i ≠ q ∧ ¬ P i) w w'
  foot : ∀ i, Ft p cs' i → Ft p cs i ∨ w.heap.size ≤ i
  set : ∀ i, P' i → P i ∨ w.heap.size ≤ i
  bel : Below base w w'
def RVPost (w : World) (base p q : Nat) (cs : Nat → Sl) (P : Nat → Prop) (d' : D) (v' : Vn) (s' : List Int) (rs' : List (List Int)) (w' : World) : Prop := ∃ cs' P', RVs w' base p q cs' P' d' v' s' rs' ∧ RVt w base p q cs P w' cs' P'
section
variable {w w1 w2 : World} {base p q : Nat} {cs cs1 cs2 : Nat → Sl} {P P1 P2 : Nat → Prop} {d d1 : D} {v : Vn} {s : List Int} {rs : List (List Int)}
theorem RVs.qlt (h : RVs w base p q cs P d v s rs) : q < w.heap.size := by
  obtain ⟨A, n, c, B, m, e, cells, hb, _, _⟩ := h.ex
  exact hb.lt
theorem RVt.refl : RVt w base p q cs P w cs P := ⟨Kp.refl _, fun _ h => .inl h, fun _ h => .inl h, Below.refl _ _⟩
theorem RVt.trans (h : RVt w base p q cs P w1 cs1 P1) (k : RVt w1 base p q cs1 P1 w2 cs2 P2) : RVt w base p q cs P w2 cs2 P2 := by
  refine ⟨⟨Nat.le_trans h.keep.1 k.keep.1, fun i hi hlt => (k.keep.2 i ⟨fun hf => ?_, hi.2.1, fun hp => ?_⟩ (Nat.lt_of_lt_of_le hlt h.keep.1)).trans (h.keep.2 i hi hlt)⟩, fun i hi => ?_, fun i hi => ?_, h.bel.trans k.bel⟩
  · rcases h.foot i hf with h1 | h1
    · exact hi.1 h1
    · omega
  · rcases h.set i hp with h1 | h1
    · exact hi.2.2 h1
    · omega
  · rcases k.foot i hi with h1 | h1
    · exact h.foot i h1
    · exact .inr (Nat.le_trans h.keep.1 h1)
  · rcases k.set i hi with h1 | h1
    · exact h.set i h1
    · exact .inr (Nat.le_trans h.keep.1 h1)
/-- a step of the disk -/
theorem RVs.disk (h : RVs w base p q cs P d v s rs) (st : DStep w base p cs w1 cs1) (h1 : RAt w1 base p cs1 d1) : RVs w1 base p q cs1 (fun i => P i ∧ i < w.heap.size) d1 v s rs := by
  have hq := h.qlt
  obtain ⟨A, n, c, B, m, e, cells, hb, hs, hr⟩ := h.ex
  have hk : Kp P w w1 := st.keep.mono fun i _ hi => (h.hP i hi).1
  refine ⟨h1, ⟨A, n, c, B, m, e, cells, hb.kept st.keep h.nq, hs.step hk fun j hj hp => ⟨hp, hj⟩, hr.step hk fun j hj hp => ⟨hp, hj⟩⟩, h.hq, fun hf => ?_, fun i hi => ⟨fun hf => ?_, (h.hP i hi.1).2⟩⟩
  · rcases st.foot q hf with h2 | h2
    · exact h.nq h2
    · omega
  · rcases st.foot i hf with h2 | h2
    · exact (h.hP i hi.1).1 h2
    · omega
theorem RVt.disk (st : DStep w base p cs w1 cs1) : RVt w base p q cs P w1 cs1 (fun i => P i ∧ i < w.heap.size) := ⟨st.keep.mono fun _ _ h => h.1, st.foot, fun _ h => .inl h.1, st.bel⟩
/-- new blocks alone -/
theorem RVs.below (h : RVs w base p q cs P d v s rs) (hb : Below w.heap.size w w1) : RVs w1 base p q cs P d v s rs := by
  obtain ⟨A, n, c, B, m, e, cells, h1, h2, h3⟩ := h.ex
  exact ⟨h.at_.below hb, ⟨A, n, c, B, m, e, cells, h1.below hb, h2.below hb, h3.below hb⟩, h.hq, h.nq, h.hP⟩
theorem RVt.below (hb : Below w.heap.size w w1) (hbase : base ≤ w.heap.size) : RVt w base p q cs P w1 cs P := ⟨⟨hb.size, fun i _ hi => hb.block i hi⟩, fun _ h => .inl h, fun _ h => .inl h, hb.mono hbase⟩
/-- what lies in P stays: another's steps -/
theorem RVs.other (h : RVs w base p q cs P d v s rs) {Q : Nat → Prop} (hk : Kp Q w w1) (h1 : ∀ i, Ft p cs i → Q i) (h2 : Q q) (h3 : ∀ i, P i → Q i) : RVs w1 base p q cs P d v s rs := by
  obtain ⟨A, n, c, B, m, e, cells, k1, k2, k3⟩ := h.ex
  exact ⟨h.at_.kept hk h1, ⟨A, n, c, B, m, e, cells, k1.kept hk h2, k2.kp (hk.mono fun i _ => h3 i), k3.kp (hk.mono fun i _ => h3 i)⟩, h.hq, h.nq, h.hP⟩
theorem kp_set {P : Nat → Prop} (hq : ∀ i, P i → i ≠ q) (w : World) (i : Nat) (x : Value) : Kp P w (w.setCell ⟨q, i, none⟩ x) := (Kp.refl w).set (fun h => hq q h rfl) i x
theorem RVt.put (hq : base ≤ q) (i : Nat) (x : Value) : RVt w base p q cs P (w.setCell ⟨q, i, none⟩ x) cs P :=
  ⟨(Kp.refl w).set (fun h => h.2.1 rfl) i x, fun _ h => .inl h, fun _ h => .inl h, (Below.refl base w).setCell (p := ⟨q, i, none⟩) hq x⟩
/-- the error is kept -/
theorem RVs.sick (h : RVs w base p q cs P d v s rs) (x : Int) : RVs (w.setCell ⟨q, 5, none⟩ (.int .i64 x)) base p q cs P d ⟨v.f, v.g, v.n, x⟩ s rs := by
  obtain ⟨A, n, c, B, m, e, cells, k1, k2, k3⟩ := h.ex
  have hk := kp_set (q := q) (fun i hi => (h.hP i hi).2) w 5 (.int .i64 x)
  exact ⟨RAt.vset h.at_ h.nq 5 _, ⟨A, n, c, B, m, e, cells, ⟨k1.put 5 _⟩, k2.kp hk, k3.kp hk⟩, h.hq, h.nq, h.hP⟩
/-- the records' list is another -/
theorem RVs.recs (h : RAt w base p cs d) (hb : ∃ A n c B m e, RB w q p v.f v.g A n c B m e v.s ∧ SnapW P w base A n c s) {B : Option Addr} {m e : Nat} {cells : List Value} (hr : RecW P w base B m e cells rs) (hq : base ≤ q) (hnq : ¬ Ft p cs q) (hP : ∀ i, P i → ¬ Ft p cs i ∧ i ≠ q) (n' : Int) :
    RVs (w.setCell ⟨q, 4, none⟩ (.slice B m e)) base p q cs P d ⟨v.f, v.g, n', v.s⟩ s rs := by
  obtain ⟨A, n, c, B', m', e', k1, k2⟩ := hb
  have hk := kp_set (q := q) (fun i hi => (hP i hi).2) w 4 (.slice B m e)
  exact ⟨RAt.vset h hnq 4 _, ⟨A, n, c, B, m, e, cells, ⟨k1.put 4 _⟩, k2.kp hk, hr.kp hk⟩, hq, hnq, hP⟩
theorem RVs.n (h : RVs w base p q cs P d v s rs) (n' : Int) : RVs w base p q cs P d ⟨v.f, v.g, n', v.s⟩ s rs := ⟨h.at_, h.ex, h.hq, h.nq, h.hP⟩
end
end Go.Proofs.YtfinaikgikifcaaDoor.vref
/- The Append of the document's vault. -/
namespace Go.Proofs.YtfinaikgikifcaaDoor.vref
open Go.RowKit Go.Shelf Go.Proofs.YtfinaikgikifcaaDoorW.PrintWords Go.Proofs.YtfinaikgikifcaaDoor.base Go.Proofs.YtfinaikgikifcaaDoor.mem Go.Proofs.YtfinaikgikifcaaDoor.keep Go.Proofs.YtfinaikgikifcaaDoor.samew Go.Proofs.YtfinaikgikifcaaDoor.framep Go.Proofs.YtfinaikgikifcaaDoor.framew Go.Proofs.YtfinaikgikifcaaDoor.frameit Go.Proofs.YtfinaikgikifcaaDoor.framem Go.Proofs.YtfinaikgikifcaaDoor.framel Go.Proofs.YtfinaikgikifcaaDoor.framea Go.Proofs.YtfinaikgikifcaaDoor.framer Go.Proofs.YtfinaikgikifcaaDoor.framek Go.Proofs.YtfinaikgikifcaaDoor.diskp Go.Proofs.YtfinaikgikifcaaDoor.diskr Go.Proofs.YtfinaikgikifcaaDoor.diskw Go.Proofs.YtfinaikgikifcaaDoor.refr Go.Proofs.YtfinaikgikifcaaDoor.refw Go.Proofs.YtfinaikgikifcaaDoor.vaultp Go.Proofs.YtfinaikgikifcaaDoor.vaulta Go.Proofs.YtfinaikgikifcaaDoor.vaultr Go.Proofs.YtfinaikgikifcaaDoor.vaultl Go.Proofs.YtfinaikgikifcaaDoor.vaulto Go.Proofs.YtfinaikgikifcaaDoor.ordt

def RetRV (w : World) (base p q : Nat) (cs : Nat → Sl) (P : Nat → Prop) (r : D × Vn × Int) (s' : List Int) (rs' : List (List Int)) (e : Ending) (w' : World) : Prop := e = .returned (.int .i64 r.2.2) ∧ RVPost w base p q cs P r.1 r.2.1 s' rs' w'
/-- the records behind an Append -/
def recsA (x : Int) (rs : List (List Int)) (ys : List Int) : List (List Int) := if x = 0 then rs ++ [ys] else rs
theorem recsA_ok (rs : List (List Int)) (ys : List Int) : recsA 0 rs ys = rs ++ [ys] := rfl
theorem recsA_no {x : Int} (h : x ≠ 0) (rs : List (List Int)) (ys : List Int) : recsA x rs ys = rs := if_neg h
theorem app_off {d : D} (f : Int) (ys : List Int) (h : (appR d f ys).2 ≠ 0) : (beginR d f ys) = appR d f ys := if_neg h
theorem rfenc_ok (A : Option Addr) (n c : Nat) (xs : List Int) (w : World) (hr : RdB w A n xs) (hc : n ≤ c) (hn : n ≤ 1048576) :
    Calls Tryd.prog 40 #[.slice A n c] w (RetR w (fenc xs) 0) := by
  have := refencode_any A n c xs w hr hc
  rw [decide_eq_true hn] at this
  exact this
theorem rfenc_long (A : Option Addr) (n c : Nat) (xs : List Int) (w : World) (hr : RdB w A n xs) (hc : n ≤ c) (hn : ¬ n ≤ 1048576) :
    Calls Tryd.prog 40 #[.slice A n c] w (RetR w [] 3) := by
  have := refencode_any A n c xs w hr hc
  rw [decide_eq_false hn] at this
  exact this
/-- a record more, its list's header stored -/
theorem rec_more {w w1 w2 : World} {base p q : Nat} {cs : Nat → Sl} {P : Nat → Prop} {d : D} {f g s' n' : Int} {s ys : List Int} {rs : List (List Int)} {A0 B A1 A2 : Option Addr} {n0 c0 m e n1 c1 c2 : Nat} {cells : List Value} {X : Obj}
    (h : RAt w base p cs d) (hbx : RB w q p f g A0 n0 c0 B m e s') (hsn : SnapW P w base A0 n0 c0 s) (hrc : RecW P w base B m e cells rs) (hq : base ≤ q) (hnq : ¬ Ft p cs q) (hP : ∀ i, P i → ¬ Ft p cs i ∧ i ≠ q)
    (b1 : Below w.heap.size w w1) (ho : OwB w1 w.heap.size A1 n1 c1 ys) (hg : (w1.alloc X).grownBy w2 (Value.slice B m e).ownBlock) (hw : WinV w2 base A2 (m + 1) c2 (cells ++ [.slice A1 n1 c1]))
    (hob : ∀ j, (Value.slice A2 (m + 1) c2).ownBlock = some j → (Value.slice B m e).ownBlock = some j ∨ (w1.alloc X).heap.size ≤ j) :
    (RVs (w2.setCell ⟨q, 4, none⟩ (.slice A2 (m + 1) c2)) base p q cs (fun i => P i ∨ w.heap.size ≤ i) d ⟨f, g, n', s'⟩ s (rs ++ [ys]) ∧ RVt w base p q cs P (w2.setCell ⟨q, 4, none⟩ (.slice A2 (m + 1) c2)) cs (fun i => P i ∨ w.heap.size ≤ i)) ∧ w2.cell? ⟨q, 4, none⟩ = some (.slice B m e) ∧ w2.frozen? ⟨q, 4, none⟩ = false := by
  have hs1 := b1.size
  have hsx : (w1.alloc X).heap.size = w1.heap.size + 1 := by simp
  have bX : Below w.heap.size w (w1.alloc X) := b1.alloc hs1 _
  have bX1 : Below w1.heap.size w1 (w1.alloc X) := below_alloc (Below.refl _ _) _
  have hbl : ∀ i, i < w.heap.size → (Value.slice B m e).ownBlock ≠ some i → w2.heap[i]? = w.heap[i]? := fun i hi hne => (hg.block i (by omega) (fun e => hne e.symm)).trans (bX.block i hi)
  have hnh : ∀ i, (Value.slice B m e).ownBlock = some i → P i := hrc.head
  have h2 : RAt w2 base p cs d := h.blocks fun i hi => hbl i (h.ft hi).2 fun e => (hP i (hnh i e)).1 hi
  have hq2 : w2.heap[q]? = w.heap[q]? := hbl q hbx.lt fun e => (hP q (hnh q e)).2 rfl
  have hb2 := hbx.block hq2
  have hP' : ∀ i, P i ∨ w.heap.size ≤ i → ¬ Ft p cs i ∧ i ≠ q := by
    rintro i (hi | hi)
    · exact hP i hi
    · exact ⟨fun hf => by have := (h.ft hf).2; omega, fun e => by have := hbx.lt; omega⟩
  have hrX : RecW (fun i => P i ∨ w.heap.size ≤ i) (w1.alloc X) base B m e cells rs := (hrc.below bX).mono fun _ _ _ h => .inl h
  have hr2 : RecW (fun i => P i ∨ w.heap.size ≤ i) w2 base A2 (m + 1) c2 (cells ++ [.slice A1 n1 c1]) (rs ++ [ys]) :=
    RecW.snoc (hrc.mono fun _ _ _ h => .inl h) hrX (ho.below bX1) h.base_le (Nat.le_refl _) hw hg hob (fun j hj => .inr hj) (by omega)
  have hs2 : SnapW (fun i => P i ∨ w.heap.size ≤ i) w2 base A0 n0 c0 s := ((hsn.below bX).map fun _ _ _ _ ho => OwB.keptT ho hg hrX.rows.row).mono fun _ _ _ h => .inl h
  refine ⟨⟨RVs.recs (v := ⟨f, g, n', s'⟩) h2 ⟨_, _, _, _, _, _, hb2, hs2⟩ hr2 hq hnq hP' n', ⟨⟨?_, fun i hi hlt => ?_⟩, fun _ h => .inl h, fun _ h => h, ?_⟩⟩, hb2.cells.2.2.2.2.1, hb2.free 4⟩
  · have := hg.size
    simp only [World.setCell, Array.size_modify]
    omega
  · rw [Below.heap_setCell _ _ _ _ hi.2.1]
    exact hbl i hlt fun e => hi.2.2 (hnh i e)
  · exact ((bX.mono h.base_le).grown hg (by have := h.base_le; omega) (fun j hj => (hrX.rows.blk j hj).1)).setCell (p := ⟨q, 4, none⟩) hq _
set_option maxHeartbeats 4000000 in
set_option maxRecDepth 100000 in
theorem rvapp_any {w : World} {base p q : Nat} {cs : Nat → Sl} {P : Nat → Prop} {d : D} {v : Vn} {s : List Int} {rs : List (List Int)} {S N : Nat} (h : RVs w base p q cs P d v s rs) (hk : Ok d S N) (hm : rs.length ≤ 4294967296) (A : Option Addr) (n c : Nat) (ys : List Int) (hr : ∀ w' cs', DStep w base p cs w' cs' → RdB w' A n ys) (hc : n ≤ c) (hS : S + 1048584 ≤ 70368744177664) (hN : N + 2 ≤ 4611686018427387904) :
    Calls Tryd.prog 24 #[.pointer (some ⟨q, 0, none⟩), .slice A n c] w (RetRV w base p q cs P (vappR d v ys) s (recsA (vappR d v ys).2.2 rs ys)) := by
  have hr0 := hr w cs (DStep.refl _ _ _ _)
  have hl := hr0.len
  have HEO := Lib.hid (fun hn => rfenc_ok A n c ys w hr0 hc hn)
  have HEL := Lib.hid (fun hn => rfenc_long A n c ys w hr0 hc hn)
  have H := Lib.hid h
  have HK := Lib.hid hk
  have HRD := Lib.hid hr
  have hbs := h.at_.base_le
  have hq := h.hq
  have hql := h.qlt
  clear h hk hr hr0
  by_cases hlong : n ≤ 1048576
  · have HE := Lib.hid (HEO.out hlong)
    have HA : Hid (vappR d v ys = if v.s ≠ 0 then (d, v, v.s) else if (beginR d v.f (fenc ys)).2 ≠ 0 then ((beginR d v.f (fenc ys)).1, ⟨v.f, v.g, v.n, (beginR d v.f (fenc ys)).2⟩, (beginR d v.f (fenc ys)).2) else ((beginR d v.f (fenc ys)).1, ⟨v.f, v.g, v.n + 1, v.s⟩, 0)) := Lib.hid (if_neg (by omega))
    have HFL := Lib.hid (fenc_len ys)
    clear HEO HEL
    go_enter Tryd.func24, Tryd.ntmps24
    go_wp2_with fail
    refine HE.out.mono ?_
    rintro e w2 ⟨A2, n2, c2, rfl, ho, hb⟩
    have B2 := Lib.hid hb
    have HO2 := Lib.hid ho
    have hl2 := ho.len
    rw [HFL.out] at hl2
    have hs2 := hb.size
    have H2 := Lib.hid (H.out.below hb)
    have S2 := Lib.hid (DStep.below (p := p) (cs := cs) hb hbs)
    have T2 : Hid (RVt w base p q cs P w2 cs P) := Lib.hid (RVt.below hb hbs)
    clear ho hb
    obtain ⟨A0, n0, c0, B0, m0, e0, cells0, hbx, hsn, hrc⟩ := H2.out.ex
    obtain ⟨x0, x1, x2, x3, x4, x5⟩ := hbx.cells
    clear hbx hsn hrc x2 x3 x4
    by_cases hsk : v.s = 0
    · have HA := Lib.hid (HA.out.trans (if_neg (fun h => h hsk)))
      have HSK := Lib.hid hsk
      rw [hsk] at x5
      clear hsk
      go_wp2_with fail
      go_still_tail 9, (by kernel_rfl)
      have H3 := Lib.hid (H2.out.below (Below.refl _ w2).drew)
      have S3 := Lib.hid S2.out.drewd
      have T3 : Hid (RVt w base p q cs P w2.drew cs P) := Lib.hid (T2.out.trans (RVt.below (Below.refl _ w2).drew (Nat.le_trans hbs hs2)))
      have HO3 := Lib.hid (HO2.out.below (Below.refl _ w2).drew)
      change wpList _ _ _ _ _ w2.drew
      generalize w2.drew = w3 at H3 S3 T3 HO3 ⊢
      clear x0 x1 x5
      have HAP := Lib.hid (rappend_any H3.out.at_ (HK.out.fit (by omega) (by omega)) v.f A2 n2 c2 (fenc ys) HO3.out.rd (fun i hi => by have := HK.out.len i hi; omega))
      have HK4 := Lib.hid (HK.out.app v.f (fenc ys))
      by_cases ha0 : (appR d v.f (fenc ys)).2 = 0
      · have HBG : Hid (beginR d v.f (fenc ys) = syncR (appR d v.f (fenc ys)).1 v.f) := Lib.hid (if_pos ha0)
        rw [HBG.out] at HA
        rw [ha0] at HAP
        generalize (appR d v.f (fenc ys)).1 = d1 at HAP HK4 HA HBG
        clear ha0
        go_wp2_with fail
        refine HAP.out.mono ?_
        rintro e w4 ⟨rfl, cs4, h4, s4⟩
        have H4 := Lib.hid (H3.out.disk s4 h4)
        have S4 := Lib.hid (S3.out.trans s4)
        have T4 := Lib.hid (T3.out.trans (RVt.disk s4))
        clear h4 s4
        obtain ⟨A1, n1, c1, B1, m1, e1, cells1, hbx, hsn, hrc⟩ := H4.out.ex
        obtain ⟨x0, x1, x2, x3, x4, x5⟩ := hbx.cells
        clear hbx hsn hrc x2 x3 x4
        go_wp2_with fail
        go_still_tail 8, (by kernel_rfl)
        have H5 := Lib.hid (H4.out.below (Below.refl _ w4).drew)
        have S5 := Lib.hid S4.out.drewd
        have T5 := Lib.hid (T4.out.trans (RVt.below (Below.refl _ w4).drew (Nat.le_trans hbs T4.out.keep.1)))
        change wpList _ _ _ _ _ w4.drew
        generalize w4.drew = w5 at H5 S5 T5 ⊢
        clear x0 x1 x5
        have HSY := Lib.hid (rsync_any H5.out.at_ (HK4.out.fit (by rw [HFL.out]; omega) (by omega)) v.f)
        by_cases hy0 : (syncR d1 v.f).2 = 0
        · have HA := Lib.hid (HA.out.trans (if_neg (fun h => h hy0)))
          rw [hy0] at HSY
          generalize (syncR d1 v.f).1 = d2 at HSY HA
          clear hy0
          go_wp2_with fail
          refine HSY.out.mono ?_
          rintro e w6 ⟨rfl, cs6, h6, s6⟩
          have H6 := Lib.hid (H5.out.disk s6 h6)
          have S6 := Lib.hid (S5.out.trans s6)
          have T6 := Lib.hid (T5.out.trans (RVt.disk s6))
          clear h6 s6
          have HR6 := Lib.hid (HRD.out _ _ S6.out)
          obtain ⟨A3, n3, c3, B3, m3, e3, cells3, hbx, hsn, hrc⟩ := H6.out.ex
          have HBX := Lib.hid hbx
          have HSN := Lib.hid hsn
          have HRC := Lib.hid hrc
          have hm3 := hrc.len
          obtain ⟨x0, x1, x2, x3, hx4, x5⟩ := hbx.cells
          clear hbx hsn hrc x0 x1 x2 x3 x5
          have DB := Lib.hid (Below.refl w6.heap.size w6).drew
          have RB6 := Lib.hid (Below.refl w6.drew.heap.size w6.drew)
          have hm3' : m3 ≤ 4294967296 := by omega
          clear hm3
          go_wp2_with fail
          refine begin_ (fun W : World => W.cell? ⟨q, 4, none⟩ = some (.slice B3 m3 e3)) [9, 12] (by kernel_rfl) ?_
          have hSw : (fun W : World => W.cell? ⟨q, 4, none⟩ = some (.slice B3 m3 e3)) w6.drew := hx4
          simp only [List.size_toArray, List.length_cons, List.length_nil, Nat.reduceAdd, Array.replicate_succ, Array.replicate_zero, List.push_toArray, List.append_toArray, List.nil_append, List.cons_append]
          refine move_a (i := 0) (v := ?_) rfl (by kernel_rfl) (by kernel_rfl) (by kernel_rfl) (fun _ _ _ h => h) (by rfl) ?_ ?_
          rotate_left
          · (intro w; go_simp; try with_reducible rfl)
          try simp only [Act.put, List.setIfInBounds_toArray, List.set_cons_zero, List.set_cons_succ]
          refine move_a (i := 1) (v := ?_) rfl (by kernel_rfl) (by kernel_rfl) (by kernel_rfl) (fun _ _ _ h => h) (by rfl) ?_ ?_
          rotate_left
          · (intro w; go_simp; try with_reducible rfl)
          try simp only [Act.put, List.setIfInBounds_toArray, List.set_cons_zero, List.set_cons_succ]
          refine move_a (i := 2) (v := ?_) rfl (by kernel_rfl) (by kernel_rfl) (by kernel_rfl) (fun _ _ _ h => h) (by rfl) ?_ ?_
          rotate_left
          · (intro w; go_simp; try with_reducible rfl)
          try simp only [Act.put, List.setIfInBounds_toArray, List.set_cons_zero, List.set_cons_succ]
          refine move_a (i := 3) (v := ?_) rfl (by kernel_rfl) (by kernel_rfl) (by kernel_rfl) (fun _ _ _ h => h) (by rfl) ?_ ?_
          rotate_left
          · (intro w; go_simp; try with_reducible rfl)
          try simp only [Act.put, List.setIfInBounds_toArray, List.set_cons_zero, List.set_cons_succ]
          refine move_a (i := 6) (v := ?_) rfl (by kernel_rfl) (by kernel_rfl) (by kernel_rfl) (fun _ _ _ h => h) (by rfl) ?_ ?_
          rotate_left
          · (intro w; go_simp; try with_reducible rfl)
          try simp only [Act.put, List.setIfInBounds_toArray, List.set_cons_zero, List.set_cons_succ]
          refine move_b [9, 12] [9, 12] (i := 4) (v := ?_) rfl (by kernel_rfl) (by kernel_rfl) (by kernel_rfl) (fun _ _ _ h => h) (by kernel_rfl) (by kernel_rfl) (by kernel_rfl) (by rfl) ?_ hSw ?_
          rotate_left
          · (intro w hSw; (try dsimp only at hSw); go_simp; try with_reducible rfl)
          try simp only [Act.put, List.setIfInBounds_toArray, List.set_cons_zero, List.set_cons_succ]
          refine move_e (i := 5) (by kernel_rfl) rfl (fun K hK => ?_)
          go_simp
          refine hK _ _ (fun hS => pw_cell_below (below_alloc (Below.refl _ _) _) hS) ?_
          clear hK K
          try simp only [Act.put, List.setIfInBounds_toArray, List.set_cons_zero, List.set_cons_succ]
          refine move_e (i := 7) (by kernel_rfl) rfl (fun K hK => ?_)
          (refine stepApp (w0 := w6.drew) (base := w6.drew.heap.size) rfl (.tmp 57) (.tmp 58) rfl rfl rfl (OwB.lit0 w6.drew _ (Nat.le_refl _)) (HR6.out.below ((Below.refl w6.heap.size w6).alloc (Nat.le_refl _) _).drew) (RB6.out.alloc (Nat.le_refl _) _) (by simp) (by omega) ?_; intro A7 n7 c7 w7 ho hb; rw [List.nil_append] at ho; have hl7 := ho.len; have HO7 := Lib.hid ho; have HB7 := Lib.hid hb; clear ho hb)
          refine hK _ _ (fun hS => pw_cell_below HB7.out (show w6.drew.cell? _ = _ from hx4)) ?_
          clear hK K
          try simp only [Act.put, List.setIfInBounds_toArray, List.set_cons_zero, List.set_cons_succ]
          refine move_e (i := 8) (by kernel_rfl) rfl (fun K hK => ?_)
          go_simp
          refine hK _ _ (fun hS => pw_cell_below (below_alloc (Below.refl _ _) _) hS) ?_
          clear hK K
          try simp only [Act.put, List.setIfInBounds_toArray, List.set_cons_zero, List.set_cons_succ]
          refine move_c (i := 9) (by kernel_rfl) rfl (by rfl) (fun K hK => ?_)
          (have HB8 : Hid (Below w6.heap.size w6 w7) := Lib.hid (DB.out.trans HB7.out); refine stepAppW (base := base) (ad := ⟨w7.heap.size, 0, none⟩) (e := 1) (v := .slice A7 n7 c7) rfl (.tmp 56) (.tmp 60) rfl rfl rfl ((HRC.out.below HB8.out).below (below_alloc (Below.refl _ _) _)).rows rfl (by unfold World.cell?; rw [World.alloc_heap_new]; rfl) (by have h1 := HB8.out.size; have h2 := H6.out.at_.base_le; simp; omega) (by omega) ?_; intro A9 c9 w9 hw9 hg9 hob9; obtain ⟨HX, y0, z0⟩ := rec_more (n' := v.n + 1) H6.out.at_ HBX.out HSN.out HRC.out hq H6.out.nq H6.out.hP HB8.out HO7.out hg9 hw9 hob9; have HXX := Lib.hid HX; clear HX hw9 hg9 hob9)
          refine hK _ _ ?_
          clear hK K
          try simp only [Act.put, List.setIfInBounds_toArray, List.set_cons_zero, List.set_cons_succ]
          refine move_a (i := 10) (v := ?_) rfl (by kernel_rfl) (by kernel_rfl) (by kernel_rfl) (fun _ _ _ h => h) (by rfl) ?_ ?_
          rotate_left
          · (intro w; go_simp; try with_reducible rfl)
          try simp only [Act.put, List.setIfInBounds_toArray, List.set_cons_zero, List.set_cons_succ]
          refine move_a (i := 11) (v := ?_) rfl (by kernel_rfl) (by kernel_rfl) (by kernel_rfl) (fun _ _ _ h => h) (by rfl) ?_ ?_
          rotate_left
          · (intro w; go_simp; try with_reducible rfl)
          try simp only [Act.put, List.setIfInBounds_toArray, List.set_cons_zero, List.set_cons_succ]
          refine move_c (i := 12) (by kernel_rfl) rfl (by rfl) (fun K hK => ?_)
          go_simp
          refine hK _ _ ?_
          clear hK K
          try simp only [Act.put, List.setIfInBounds_toArray, List.set_cons_zero, List.set_cons_succ]
          refine move_d (by kernel_rfl) ?_
          go_wp2
          go_ret
          rw [HA.out, recsA_ok]
          exact ⟨rfl, cs6, _, HXX.out.1, T6.out.trans HXX.out.2⟩
        · have hb1 : ((syncR d1 v.f).2 == 0) = false := beq_eq_false_iff_ne.2 hy0
          have hb2 : ((syncR d1 v.f).2 != 0) = true := by simp [hy0]
          have HA := Lib.hid (HA.out.trans (if_pos hy0))
          generalize syncR d1 v.f = r at HSY hb1 hb2 HA hy0
          have HNZ := Lib.hid hy0
          clear hy0 HBG
          go_wp2_with fail
          refine HSY.out.mono ?_
          rintro e w6 ⟨rfl, cs6, h6, s6⟩
          have H6 := Lib.hid (H5.out.disk s6 h6)
          have T6 := Lib.hid (T5.out.trans (RVt.disk s6))
          clear h6 s6
          obtain ⟨A3, n3, c3, B3, m3, e3, cells3, hbx, hsn, hrc⟩ := H6.out.ex
          have f5 := hbx.free 5
          obtain ⟨x0, x1, x2, x3, x4, x5⟩ := hbx.cells
          clear hbx hsn hrc x0 x1 x2 x3 x4
          go_wp2
          go_ret
          rw [HA.out, recsA_no HNZ.out]
          exact ⟨rfl, cs6, _, H6.out.sick _, T6.out.trans (RVt.put hq 5 _)⟩
      · have hb1 : ((appR d v.f (fenc ys)).2 == 0) = false := beq_eq_false_iff_ne.2 ha0
        have hb2 : ((appR d v.f (fenc ys)).2 != 0) = true := by simp [ha0]
        have HBG := Lib.hid (app_off v.f (fenc ys) ha0)
        have HA := Lib.hid (HA.out.trans (if_pos (by rw [HBG.out]; exact ha0)))
        rw [HBG.out] at HA
        generalize appR d v.f (fenc ys) = r at HAP hb1 hb2 HA HK4 ha0
        have HNZ := Lib.hid ha0
        clear ha0 HBG
        go_wp2_with fail
        refine HAP.out.mono ?_
        rintro e w4 ⟨rfl, cs4, h4, s4⟩
        have H4 := Lib.hid (H3.out.disk s4 h4)
        have T4 := Lib.hid (T3.out.trans (RVt.disk s4))
        clear h4 s4
        obtain ⟨A1, n1, c1, B1, m1, e1, cells1, hbx, hsn, hrc⟩ := H4.out.ex
        have f5 := hbx.free 5
        obtain ⟨x0, x1, x2, x3, x4, x5⟩ := hbx.cells
        clear hbx hsn hrc x0 x1 x2 x3 x4
        go_wp2
        go_ret
        rw [HA.out, recsA_no HNZ.out]
        exact ⟨rfl, cs4, _, H4.out.sick _, T4.out.trans (RVt.put hq 5 _)⟩
    · have HA := Lib.hid (HA.out.trans (if_pos hsk))
      have hb1 : (v.s == 0) = false := beq_eq_false_iff_ne.2 hsk
      have hb2 : (v.s != 0) = true := by simp [hsk]
      have HSK := Lib.hid hsk
      clear hsk
      go_wp2
      go_ret
      rw [HA.out, recsA_no HSK.out]
      exact ⟨rfl, cs, P, H2.out, T2.out⟩
  · have HE := Lib.hid (HEL.out hlong)
    have HA : Hid (vappR d v ys = (d, v, 3)) := Lib.hid (if_pos (by omega))
    clear HEO HEL
    go_enter Tryd.func24, Tryd.ntmps24
    go_wp2_with fail
    refine HE.out.mono ?_
    rintro e w2 ⟨A2, n2, c2, rfl, ho, hb⟩
    have H2 := Lib.hid (H.out.below hb)
    have T2 : Hid (RVt w base p q cs P w2 cs P) := Lib.hid (RVt.below hb hbs)
    clear ho hb
    go_wp2
    go_ret
    rw [HA.out, recsA_no (show (3 : Int) ≠ 0 by decide)]
    exact ⟨rfl, cs, P, H2.out, T2.out⟩
end Go.Proofs.YtfinaikgikifcaaDoor.vref
/- The Checkpoint of the document's vault. -/
namespace Go.Proofs.YtfinaikgikifcaaDoor.vref
open Go.RowKit Go.Shelf Go.Proofs.YtfinaikgikifcaaDoorW.PrintWords Go.Proofs.YtfinaikgikifcaaDoor.base Go.Proofs.YtfinaikgikifcaaDoor.mem Go.Proofs.YtfinaikgikifcaaDoor.keep Go.Proofs.YtfinaikgikifcaaDoor.samew Go.Proofs.YtfinaikgikifcaaDoor.framep Go.Proofs.YtfinaikgikifcaaDoor.framew Go.Proofs.YtfinaikgikifcaaDoor.frameit Go.Proofs.YtfinaikgikifcaaDoor.framem Go.Proofs.YtfinaikgikifcaaDoor.framel Go.Proofs.YtfinaikgikifcaaDoor.framea Go.Proofs.YtfinaikgikifcaaDoor.framer Go.Proofs.YtfinaikgikifcaaDoor.framek Go.Proofs.YtfinaikgikifcaaDoor.diskp Go.Proofs.YtfinaikgikifcaaDoor.diskr Go.Proofs.YtfinaikgikifcaaDoor.diskw Go.Proofs.YtfinaikgikifcaaDoor.refr Go.Proofs.YtfinaikgikifcaaDoor.refw Go.Proofs.YtfinaikgikifcaaDoor.vaultp Go.Proofs.YtfinaikgikifcaaDoor.vaulta Go.Proofs.YtfinaikgikifcaaDoor.vaultr Go.Proofs.YtfinaikgikifcaaDoor.vaultl Go.Proofs.YtfinaikgikifcaaDoor.vaulto

/-- snapshot and records behind a Checkpoint -/
def snapC (g g' : Int) (s0 s : List Int) : List Int := if g' = g then s0 else s
def recsC (g g' : Int) (rs : List (List Int)) : List (List Int) := if g' = g then rs else []
theorem snapC_no (g : Int) (s0 s : List Int) : snapC g g s0 s = s0 := if_pos rfl
theorem recsC_no (g : Int) (rs : List (List Int)) : recsC g g rs = rs := if_pos rfl
theorem snapC_ok (g : Int) (s0 s : List Int) : snapC g (g + 1) s0 s = s := if_neg (by omega)
theorem recsC_ok (g : Int) (rs : List (List Int)) : recsC g (g + 1) rs = [] := if_neg (by omega)
section
variable {w w1 : World} {base p q : Nat} {cs : Nat → Sl} {P : Nat → Prop} {d : D} {v : Vn} {s : List Int} {rs : List (List Int)}
theorem RVs.turn (h : RVs w base p q cs P d v s rs) (f' g' : Int) : RVs ((w.setCell ⟨q, 1, none⟩ (.int .i64 f')).setCell ⟨q, 2, none⟩ (.int .i64 g')) base p q cs P d ⟨f', g', v.n, v.s⟩ s rs := by
  obtain ⟨A, n, c, B, m, e, cells, k1, k2, k3⟩ := h.ex
  have hq := fun i hi => (h.hP i hi).2
  have k4 : RB (w.setCell ⟨q, 1, none⟩ (.int .i64 f')) q p f' v.g A n c B m e v.s := ⟨k1.put 1 _⟩
  exact ⟨RAt.vset (RAt.vset h.at_ h.nq 1 _) h.nq 2 _, ⟨A, n, c, B, m, e, cells, ⟨k4.put 2 _⟩, (k2.kp (kp_set hq w 1 _)).kp (kp_set hq _ 2 _), (k3.kp (kp_set hq w 1 _)).kp (kp_set hq _ 2 _)⟩, h.hq, h.nq, h.hP⟩
theorem RVs.snap (h : RVs w base p q cs P d v s rs) {A : Option Addr} {n c : Nat} {ys : List Int} (b1 : Below w.heap.size w w1) (ho : OwB w1 w.heap.size A n c ys) :
    RVs (w1.setCell ⟨q, 3, none⟩ (.slice A n c)) base p q cs (fun i => P i ∨ w.heap.size ≤ i) d v ys rs ∧ RVt w base p q cs P (w1.setCell ⟨q, 3, none⟩ (.slice A n c)) cs (fun i => P i ∨ w.heap.size ≤ i) := by
  have hql := h.qlt
  have hbs := h.at_.base_le
  obtain ⟨A0, n0, c0, B, m, e, cells, k1, k2, k3⟩ := (h.below b1).ex
  have hP' : ∀ i, P i ∨ w.heap.size ≤ i → ¬ Ft p cs i ∧ i ≠ q := by
    rintro i (hi | hi)
    · exact h.hP i hi
    · exact ⟨fun hf => by have := (h.at_.ft hf).2; omega, fun e => by omega⟩
  have hk := kp_set (q := q) (fun i hi => (hP' i hi).2) w1 3 (.slice A n c)
  refine ⟨⟨RAt.vset (h.at_.below b1) h.nq 3 _, ⟨A, n, c, B, m, e, cells, ⟨k1.put 3 _⟩, ((SnapW.own ho (P := fun i => P i ∨ w.heap.size ≤ i) fun j hj _ => .inr hj).less hbs).kp hk, (k3.mono fun _ _ _ h => .inl h).kp hk⟩, h.hq, h.nq, hP'⟩, ?_⟩
  exact ⟨⟨by simp [World.setCell]; exact b1.size, fun i hi hlt => (Below.heap_setCell _ _ _ _ hi.2.1).trans (b1.block i hlt)⟩, fun _ h => .inl h, fun _ h => h, (b1.mono hbs).setCell (p := ⟨q, 3, none⟩) h.hq _⟩
theorem RVs.none_ (h : RVs w base p q cs P d v s rs) (n' : Int) : RVs (w.setCell ⟨q, 4, none⟩ (.slice none 0 0)) base p q cs P d ⟨v.f, v.g, n', v.s⟩ s [] := by
  obtain ⟨A, n, c, B, m, e, cells, k1, k2, k3⟩ := h.ex
  exact RVs.recs h.at_ ⟨A, n, c, B, m, e, k1, k2⟩ (RecW.nil _ _ _) h.hq h.nq h.hP n'
end
set_option maxHeartbeats 4000000 in
set_option maxRecDepth 100000 in
theorem rvck_any {w : World} {base p q : Nat} {cs : Nat → Sl} {P : Nat → Prop} {d : D} {v : Vn} {s : List Int} {rs : List (List Int)} {S N : Nat} (h : RVs w base p q cs P d v s rs) (hk : Ok d S N) (hf : v.f = 0 ∨ v.f = 1) (hg : 0 ≤ v.g ∧ v.g ≤ 4611686018427387904) (A : Option Addr) (n c : Nat) (ys : List Int) (hr : ∀ w', Kp (fun i => ¬ Ft p cs i ∧ i ≠ q ∧ ¬ P i) w w' → RdB w' A n ys) (hn : n + 8 ≤ 140737488355328) (hS : S + 1048584 ≤ 70368744177664) (hN : N + 3 ≤ 4611686018427387904) :
    Calls Tryd.prog 25 #[.pointer (some ⟨q, 0, none⟩), .slice A n c] w (RetRV w base p q cs P (vckR d v ys) (snapC v.g (vckR d v ys).2.1.g s ys) (recsC v.g (vckR d v ys).2.1.g rs)) := by
  have hr0 := hr w (Kp.refl _)
  have hl := hr0.len
  have HF := Lib.hid (rfirst_any (v.g + 1) (by omega) A n c ys w hr0 hn)
  have H := Lib.hid h
  have HK := Lib.hid hk
  have HRD := Lib.hid hr
  have hbs := h.at_.base_le
  have hq := h.hq
  have hql := h.qlt
  obtain ⟨A0, n0, c0, B0, m0, e0, cells0, hbx, hsn, hrc⟩ := h.ex
  obtain ⟨x0, x1, x2, x3, x4, x5⟩ := hbx.cells
  clear h hk hr hr0 hbx hsn hrc x0 x1 x3 x4 x5
  by_cases hlong : 1048576 < 8 + ys.length
  · have HA : Hid (vckR d v ys = (d, v, 3)) := Lib.hid (if_pos hlong)
    rw [firstR_long hlong] at HF
    go_enter Tryd.func25, Tryd.ntmps25
    go_wp2_with fail
    refine HF.out.mono ?_
    rintro e w2 ⟨A2, n2, c2, rfl, ho, hb⟩
    have H2 := Lib.hid (H.out.below hb)
    have T2 : Hid (RVt w base p q cs P w2 cs P) := Lib.hid (RVt.below hb hbs)
    clear ho hb
    go_wp2
    go_ret
    rw [HA.out, snapC_no, recsC_no]
    exact ⟨rfl, cs, P, H2.out, T2.out⟩
  · have HA : Hid (vckR d v ys = _) := Lib.hid (if_neg hlong)
    rw [firstR_ok hlong] at HF
    have HFB : Hid ((firstB (v.g + 1) ys).length = 8 + (8 + n)) := Lib.hid (by unfold firstB; rw [fenc_len, List.length_append, le8_len]; omega)
    go_enter Tryd.func25, Tryd.ntmps25
    go_wp2_with fail
    refine HF.out.mono ?_
    rintro e w2 ⟨A2, n2, c2, rfl, ho, hb⟩
    have HO2 := Lib.hid ho
    have hl2 := ho.len
    rw [HFB.out] at hl2
    have hs2 := hb.size
    have H2 := Lib.hid (H.out.below hb)
    have T2 : Hid (RVt w base p q cs P w2 cs P) := Lib.hid (RVt.below hb hbs)
    clear ho hb x2
    obtain ⟨A1, n1, c1, B1, m1, e1, cells1, hbx, hsn, hrc⟩ := H2.out.ex
    obtain ⟨x0, x1, x2, x3, x4, x5⟩ := hbx.cells
    clear hbx hsn hrc x3 x4
    by_cases hgb : 4611686018427387904 ≤ v.g
    · have HA := Lib.hid (HA.out.trans (if_pos hgb))
      go_wp2
      go_ret
      rw [HA.out, snapC_no, recsC_no]
      exact ⟨rfl, cs, P, H2.out, T2.out⟩
    have HA := Lib.hid (HA.out.trans (if_neg hgb))
    by_cases hsk : v.s = 0
    · have HA := Lib.hid (HA.out.trans (if_neg (fun h => h hsk)))
      have HSK := Lib.hid hsk
      rw [hsk] at x5
      clear hsk
      have hfb : 0 ≤ v.f ∧ v.f ≤ 1 := by omega
      have hfbl := HFB.out
      have HAP := Lib.hid (rappend_any H2.out.at_ (HK.out.fit (by omega) (by omega)) (1 - v.f) A2 n2 c2 (firstB (v.g + 1) ys) HO2.out.rd (fun i hi => by have := HK.out.len i hi; omega))
      have HK4 := Lib.hid (HK.out.app (1 - v.f) (firstB (v.g + 1) ys))
      by_cases ha0 : (appR d (1 - v.f) (firstB (v.g + 1) ys)).2 = 0
      · have HBG : Hid (beginR d (1 - v.f) (firstB (v.g + 1) ys) = syncR (appR d (1 - v.f) (firstB (v.g + 1) ys)).1 (1 - v.f)) := Lib.hid (if_pos ha0)
        rw [HBG.out] at HA
        rw [ha0] at HAP
        generalize (appR d (1 - v.f) (firstB (v.g + 1) ys)).1 = d1 at HAP HK4 HA HBG
        clear ha0
        go_wp2_with fail
        refine HAP.out.mono ?_
        rintro e w3 ⟨rfl, cs3, h3, s3⟩
        have H3 := Lib.hid (H2.out.disk s3 h3)
        have T3 := Lib.hid (T2.out.trans (RVt.disk s3))
        clear h3 s3 x0 x1 x2 x5
        obtain ⟨A3, n3, c3, B3, m3, e3, cells3, hbx, hsn, hrc⟩ := H3.out.ex
        obtain ⟨x0, x1, x2, x3, x4, x5⟩ := hbx.cells
        clear hbx hsn hrc x1 x2 x3 x4 x5
        have HSY := Lib.hid (rsync_any H3.out.at_ (HK4.out.fit (by omega) (by omega)) (1 - v.f))
        have HK5 := Lib.hid (HK4.out.sync (1 - v.f))
        by_cases hy0 : (syncR d1 (1 - v.f)).2 = 0
        · have HA := Lib.hid (HA.out.trans (if_neg (fun h => h hy0)))
          rw [hy0] at HSY
          generalize (syncR d1 (1 - v.f)).1 = d2 at HSY HA HK5
          clear hy0
          go_wp2_with fail
          refine HSY.out.mono ?_
          rintro e w4 ⟨rfl, cs4, h4, s4⟩
          have H4 := Lib.hid (H3.out.disk s4 h4)
          have T4 := Lib.hid (T3.out.trans (RVt.disk s4))
          clear h4 s4 x0
          obtain ⟨A4, n4, c4, B4, m4, e4, cells4, hbx, hsn, hrc⟩ := H4.out.ex
          obtain ⟨x0, x1, x2, x3, x4, x5⟩ := hbx.cells
          have f1 := hbx.free 1
          have f2 := hbx.free 2
          clear hbx hsn hrc x0 x3 x4 x5
          have H5 := Lib.hid (H4.out.turn (1 - v.f) (v.g + 1))
          have T5 := Lib.hid (T4.out.trans ((RVt.put hq 1 (.int .i64 (1 - v.f))).trans (RVt.put hq 2 (.int .i64 (v.g + 1)))))
          go_upto_region 17 with fail
          generalize (w4.setCell ⟨q, 1, none⟩ (.int .i64 (1 - v.f))).setCell ⟨q, 2, none⟩ (.int .i64 (v.g + 1)) = w5 at H5 T5 ⊢
          clear x1 x2 f1 f2
          have HR5 := Lib.hid (HRD.out _ T5.out.keep)
          have B5 := Lib.hid (Below.refl w5.heap.size w5)
          go_upto_region 19 with (first | (at_builtin; refine app (w0 := w5) (base := w5.heap.size) rfl (.tmp 74) (.tmp 75) rfl rfl rfl (OwB.lit0 _ _ (Nat.le_refl _)) (HR5.out.below (below_alloc (Below.refl _ _) _)) (B5.out.alloc (Nat.le_refl _) _) ?s6 ?l6 ?_; (case s6 => simp); (case l6 => omega); intro A6 n6 c6 w6 ho hb; have HO6 := Lib.hid ho; have HB6 := Lib.hid hb; rw [List.nil_append] at HO6; have HX6 := Lib.hid (H5.out.below hb); obtain ⟨A6', n6', c6', B6', m6', e6', cells6, hbx6, _, _⟩ := HX6.out.ex; have z3 := hbx6.free 3; have z4 := hbx6.free 4; have y3 := hbx6.cells.2.2.2.1; have y4 := hbx6.cells.2.2.2.2.1; clear hbx6; clear ho hb) | fail)
          have H7 := Lib.hid ((H5.out.snap HB6.out HO6.out).1.none_ 0)
          have T7 := Lib.hid ((T5.out.trans (H5.out.snap HB6.out HO6.out).2).trans (RVt.put hq 4 (.slice none 0 0)))
          generalize (w6.setCell ⟨q, 3, none⟩ (.slice A6 n6 c6)).setCell ⟨q, 4, none⟩ (.slice none 0 0) = w7 at H7 T7 ⊢
          clear HB6 HO6 HX6 y3 y4 z3 z4 H5 T5 HR5 B5
          obtain ⟨A8, n8, c8, B8, m8, e8, cells8, hbx, hsn, hrc⟩ := H7.out.ex
          obtain ⟨x0, x1, x2, x3, x4, x5⟩ := hbx.cells
          clear hbx hsn hrc x1 x2 x3 x4 x5
          have HT := Lib.hid (rtrunc_any H7.out.at_ (HK5.out.fit (by omega) (by omega)) (1 - (1 - v.f)) 0 (by omega))
          by_cases hc0 : (cutR d2 (1 - (1 - v.f)) 0).2 = 0
          · have HA := Lib.hid (HA.out.trans (if_neg (fun h => h hc0)))
            rw [hc0] at HT
            generalize (cutR d2 (1 - (1 - v.f)) 0).1 = d3 at HT HA
            clear hc0
            go_wp2_with fail
            refine HT.out.mono ?_
            rintro e w8 ⟨rfl, cs8, h8, s8⟩
            have H8 := Lib.hid (H7.out.disk s8 h8)
            have T8 := Lib.hid (T7.out.trans (RVt.disk s8))
            clear h8 s8 x0
            go_wp2
            go_ret
            rw [HA.out, snapC_ok, recsC_ok]
            exact ⟨rfl, cs8, _, H8.out, T8.out⟩
          · have HA := Lib.hid (HA.out.trans (if_pos hc0))
            have hc1 : ((cutR d2 (1 - (1 - v.f)) 0).2 == 0) = false := beq_eq_false_iff_ne.2 hc0
            have hc2 : ((cutR d2 (1 - (1 - v.f)) 0).2 != 0) = true := by simp [hc0]
            clear hc0
            generalize cutR d2 (1 - (1 - v.f)) 0 = r at HT HA hc1 hc2
            go_wp2_with fail
            refine HT.out.mono ?_
            rintro e w8 ⟨rfl, cs8, h8, s8⟩
            have H8 := Lib.hid (H7.out.disk s8 h8)
            have T8 := Lib.hid (T7.out.trans (RVt.disk s8))
            clear h8 s8 x0
            obtain ⟨A9, n9, c9, B9, m9, e9, cells9, hbx, hsn, hrc⟩ := H8.out.ex
            have f5 := hbx.free 5
            obtain ⟨x0, x1, x2, x3, x4, x5⟩ := hbx.cells
            clear hbx hsn hrc x0 x1 x2 x3 x4
            go_wp2
            go_ret
            rw [HA.out, snapC_ok, recsC_ok]
            exact ⟨rfl, cs8, _, H8.out.sick _, T8.out.trans (RVt.put hq 5 _)⟩
        · have hb1 : ((syncR d1 (1 - v.f)).2 == 0) = false := beq_eq_false_iff_ne.2 hy0
          have hb2 : ((syncR d1 (1 - v.f)).2 != 0) = true := by simp [hy0]
          have HA := Lib.hid (HA.out.trans (if_pos hy0))
          generalize syncR d1 (1 - v.f) = r at HSY hb1 hb2 HA hy0
          clear hy0 HBG HK5
          go_wp2_with fail
          refine HSY.out.mono ?_
          rintro e w4 ⟨rfl, cs4, h4, s4⟩
          have H4 := Lib.hid (H3.out.disk s4 h4)
          have T4 := Lib.hid (T3.out.trans (RVt.disk s4))
          clear h4 s4 x0
          obtain ⟨A4, n4, c4, B4, m4, e4, cells4, hbx, hsn, hrc⟩ := H4.out.ex
          have f5 := hbx.free 5
          obtain ⟨x0, x1, x2, x3, x4, x5⟩ := hbx.cells
          clear hbx hsn hrc x0 x1 x2 x3 x4
          go_wp2
          go_ret
          rw [HA.out, snapC_no, recsC_no]
          exact ⟨rfl, cs4, _, H4.out.sick _, T4.out.trans (RVt.put hq 5 _)⟩
      · have hb1 : ((appR d (1 - v.f) (firstB (v.g + 1) ys)).2 == 0) = false := beq_eq_false_iff_ne.2 ha0
        have hb2 : ((appR d (1 - v.f) (firstB (v.g + 1) ys)).2 != 0) = true := by simp [ha0]
        have HBG := Lib.hid (app_off (1 - v.f) (firstB (v.g + 1) ys) ha0)
        have HA := Lib.hid (HA.out.trans (if_pos (by rw [HBG.out]; exact ha0)))
        rw [HBG.out] at HA
        generalize appR d (1 - v.f) (firstB (v.g + 1) ys) = r at HAP hb1 hb2 HA HK4 ha0
        clear ha0 HBG
        go_wp2_with fail
        refine HAP.out.mono ?_
        rintro e w3 ⟨rfl, cs3, h3, s3⟩
        have H3 := Lib.hid (H2.out.disk s3 h3)
        have T3 := Lib.hid (T2.out.trans (RVt.disk s3))
        clear h3 s3 x0 x1 x2 x5
        obtain ⟨A3, n3, c3, B3, m3, e3, cells3, hbx, hsn, hrc⟩ := H3.out.ex
        have f5 := hbx.free 5
        obtain ⟨x0, x1, x2, x3, x4, x5⟩ := hbx.cells
        clear hbx hsn hrc x0 x1 x2 x3 x4
        go_wp2
        go_ret
        rw [HA.out, snapC_no, recsC_no]
        exact ⟨rfl, cs3, _, H3.out.sick _, T3.out.trans (RVt.put hq 5 _)⟩
    · have HA := Lib.hid (HA.out.trans (if_pos hsk))
      have hb1 : (v.s == 0) = false := beq_eq_false_iff_ne.2 hsk
      have hb2 : (v.s != 0) = true := by simp [hsk]
      clear hsk
      go_wp2
      go_ret
      rw [HA.out, snapC_no, recsC_no]
      exact ⟨rfl, cs, P, H2.out, T2.out⟩
end Go.Proofs.YtfinaikgikifcaaDoor.vref
/- What an opening leaves of the other file: plain Lean; the document's vault as it is made. -/
namespace Go.Proofs.YtfinaikgikifcaaDoor.vref
open Go.RowKit Go.Shelf Go.Proofs.YtfinaikgikifcaaDoorW.PrintWords Go.Proofs.YtfinaikgikifcaaDoor.base Go.Proofs.YtfinaikgikifcaaDoor.mem Go.Proofs.YtfinaikgikifcaaDoor.keep Go.Proofs.YtfinaikgikifcaaDoor.samew Go.Proofs.YtfinaikgikifcaaDoor.framep Go.Proofs.YtfinaikgikifcaaDoor.framew Go.Proofs.YtfinaikgikifcaaDoor.frameit Go.Proofs.YtfinaikgikifcaaDoor.framem Go.Proofs.YtfinaikgikifcaaDoor.framel Go.Proofs.YtfinaikgikifcaaDoor.framea Go.Proofs.YtfinaikgikifcaaDoor.framer Go.Proofs.YtfinaikgikifcaaDoor.framek Go.Proofs.YtfinaikgikifcaaDoor.framen Go.Proofs.YtfinaikgikifcaaDoor.diskp Go.Proofs.YtfinaikgikifcaaDoor.diskr Go.Proofs.YtfinaikgikifcaaDoor.diskw Go.Proofs.YtfinaikgikifcaaDoor.refr Go.Proofs.YtfinaikgikifcaaDoor.refw Go.Proofs.YtfinaikgikifcaaDoor.vaultp Go.Proofs.YtfinaikgikifcaaDoor.vaulta Go.Proofs.YtfinaikgikifcaaDoor.vaultr Go.Proofs.YtfinaikgikifcaaDoor.vaultl Go.Proofs.YtfinaikgikifcaaDoor.vaulto Go.Proofs.YtfinaikgikifcaaDoor.clone

theorem ans_no {g : Bool} (h : ans g = 0) : g = false := by cases g <;> simp_all [ans]
theorem gone_no {d : D} (h : (rawD d).2 = false) : (gone d).b = d.b := by
  unfold gone
  rw [h]
  exact (rawD_off d).2.1
theorem rdy_pos (d : D) (f : Int) : rdy d f = 0 ∨ rdy d f = 1 ∨ rdy d f = 40 := by unfold rdy; split <;> simp; split <;> simp
theorem cut_other {d : D} {f g : Nat} (hf : f < 2) (hg : g < 2) (hne : f ≠ g) (n : Int) (h : (cutR d f n).2 = 0) : fileB (cutR d f n).1 g = fileB d g := by
  have key : fileB (cutR d f n).1 g = fileB d g ∨ (cutR d f n).2 ≠ 0 := by
    unfold cutR
    split
    · exact .inl rfl
    · split
      · exact .inl rfl
      · split
        · exact .inl rfl
        · cases ha : (rawD d).2
          · left
            show fileB (cutD d (f : Int).toNat n.toNat) g = _
            unfold cutD
            rw [ha, if_neg (by simp), Int.toNat_natCast]
            unfold fileB cutB
            show upd (upd (gone d).b (2 * f + 1) _) (2 * f) _ (2 * g) ++ upd (upd (gone d).b (2 * f + 1) _) (2 * f) _ (2 * g + 1) = _
            rw [upd_ne _ _ (by omega), upd_ne _ _ (by omega), upd_ne _ _ (by omega), upd_ne _ _ (by omega), gone_no ha]
          · right
            show ans true ≠ 0
            decide
  rcases key with h1 | h1
  · exact h1
  · exact absurd h h1
theorem sync_other {d : D} {f g : Nat} (hf : f < 2) (hg : g < 2) (hne : f ≠ g) (h : (syncR d f).2 = 0) : fileB (syncR d f).1 g = fileB d g := by
  unfold syncR at h ⊢
  split at h
  · rename_i h0
    exact absurd h h0
  · rename_i h0
    rw [if_neg h0]
    have ha := ans_no h
    unfold syncD
    rw [ha, if_neg (by simp), Int.toNat_natCast]
    unfold fileB syncB
    show upd (upd (gone d).b (2 * f) _) (2 * f + 1) _ (2 * g) ++ upd (upd (gone d).b (2 * f) _) (2 * f + 1) _ (2 * g + 1) = _
    rw [upd_ne _ _ (by omega), upd_ne _ _ (by omega), upd_ne _ _ (by omega), upd_ne _ _ (by omega), gone_no ha]
theorem app_other {d : D} {f g : Nat} (hf : f < 2) (hg : g < 2) (hne : f ≠ g) (ys : List Int) (h : (appR d f ys).2 = 0) : fileB (appR d f ys).1 g = fileB d g := by
  unfold appR at h ⊢
  split at h
  · rename_i h0
    exact absurd h h0
  · rename_i h0
    rw [if_neg h0]
    have ha : (rawD (putB d (2 * f + 1) (d.b (2 * f + 1) ++ ys))).2 = false := by
      rw [← ans_no h]
      unfold rawD putB
      dsimp only
      split <;> rfl
    unfold appD
    rw [Int.toNat_natCast]
    unfold fileB
    rw [gone_no ha]
    show upd d.b (2 * f + 1) _ (2 * g) ++ upd d.b (2 * f + 1) _ (2 * g + 1) = _
    rw [upd_ne _ _ (by omega), upd_ne _ _ (by omega)]
section
variable {w w1 : World} {base p : Nat} {cs : Nat → Sl} {d : D}
theorem rall0 (h : RAt w base p cs d) (hs : Small d.b) : Calls Tryd.prog 46 #[.pointer (some ⟨p, 0, none⟩), .int .i64 0] w (RetB w (fileB d 0)) := rall_any h hs 0 (by omega)
theorem rall1 (h : RAt w base p cs d) (hs : Small d.b) : Calls Tryd.prog 46 #[.pointer (some ⟨p, 0, none⟩), .int .i64 1] w (RetB w (fileB d 1)) := rall_any h hs 1 (by omega)
/-- the document's vault, made -/
theorem RVs.make {lo : Nat} (h : RAt w base p cs d) (hlo : ∀ i, Ft p cs i → i < lo) (hb : base ≤ lo) (hlw : lo ≤ w.heap.size) {A B : Option Addr} {n c m e : Nat} {cells : List Value} {s : List Int} {rs : List (List Int)} (hs : Snap w lo A n c s) (hw : WinV w lo B m e cells) (hr : Rws w lo cells rs) (f g n' : Int) :
    RVs (w.alloc (.cells #[.pointer (some ⟨p, 0, none⟩), .int .i64 f, .int .i64 g, .slice A n c, .slice B m e, .int .i64 0] 55)) base p w.heap.size cs (fun i => lo ≤ i ∧ i < w.heap.size) d ⟨f, g, n', 0⟩ s rs := by
  have bX : Below w.heap.size w (w.alloc (.cells #[.pointer (some ⟨p, 0, none⟩), .int .i64 f, .int .i64 g, .slice A n c, .slice B m e, .int .i64 0] 55)) := below_alloc (Below.refl _ _) _
  refine ⟨h.below bX, ⟨A, n, c, B, m, e, cells, ⟨World.alloc_heap_new w _⟩, ((SnapW.snap hs).less hb).below bX, ((RecW.win hw hr).less hb).below bX⟩, by omega, fun hf => by have := hlo _ hf; omega, fun i hi => ⟨fun hf => by have := hlo _ hf; omega, by omega⟩⟩
end
end Go.Proofs.YtfinaikgikifcaaDoor.vref
