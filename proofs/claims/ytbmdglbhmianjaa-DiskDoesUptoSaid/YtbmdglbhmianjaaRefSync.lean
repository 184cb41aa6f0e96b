/- The document's disk: Sync. -/
import Derived.Test.YtbmdglbhmianjaaRefApp
set_option linter.unusedVariables false
set_option linter.unusedSimpArgs false
namespace Go.Proofs.Ytbmdglbhmianjaa.refw
open Go.RowKit Go.Proofs.YtbmdglbhmianjaaW.PrintWords Go.Proofs.Ytbmdglbhmianjaa.base Go.Proofs.Ytbmdglbhmianjaa.mem Go.Proofs.Ytbmdglbhmianjaa.keep Go.Proofs.Ytbmdglbhmianjaa.diskp Go.Proofs.Ytbmdglbhmianjaa.diskr Go.Proofs.Ytbmdglbhmianjaa.refr Go.Proofs.Ytbmdglbhmianjaa.ordt Go.Proofs.Ytbmdglbhmianjaa.clone Go.Proofs.Ytbmdglbhmianjaa.diskw

set_option maxHeartbeats 8000000 in
theorem rsync_any {w : World} {base p : Nat} {cs : Nat → Sl} {d : D} (h : RAt w base p cs d) (hd : Fit d) (f : Int) :
    Calls Try.prog 31 #[.pointer (some ⟨p, 0, none⟩), .int .i64 f] w (RetF w base p cs (.int .i64 (syncR d f).2) (syncR d f).1) := by
  have H := Lib.hid h
  have e4 := h.cells.2.2.2.2.1
  have HA : Hid (syncR d f = if rdy d f ≠ 0 then (d, rdy d f) else (syncD d f.toNat, ans (rawD d).2)) := Lib.hid rfl
  by_cases hf0 : f = 0
  · subst hf0
    cases ho : d.off
    · have HA := Lib.hid (HA.out.trans (if_neg (by rw [show rdy d 0 = ans d.off from rdy0 0 (by omega), ho]; decide)))
      rw [ho] at e4
      simp only [Bool.not_false] at e4
      have HRaw := Lib.hid (rraw_any h hd.n hd.a)
      have HKK := Lib.hid (rawD_off d).2.2
      have HBB := Lib.hid (rawD_off d).2.1
      have HSM := Lib.hid hd.raw
      have HS : Hid (syncD d 0 = if (rawD d).2 then gone d else syncB (gone d) 0) := Lib.hid rfl
      have HG : Hid (gone d = if (rawD d).2 then offD (rawD d).1 d.k else (rawD d).1) := Lib.hid rfl
      clear h hd ho
      generalize (rawD d).2 = gg at HRaw HG HA HS
      generalize (rawD d).1 = d2 at HRaw HG HKK HSM HBB
      go_enter Try.func31, Try.ntmps31
      go_wp2_with fail
      refine HRaw.out.mono ?_
      rintro e w3 ⟨rfl, h3, s3⟩
      have S3 := Lib.hid s3
      cases gg
      · have e0 : w3.cell? ⟨p, 0, none⟩ = some (.slice (cs 0).A (cs 0).n (cs 0).c) := h3.cells.1
        have e1 : w3.cell? ⟨p, 2, none⟩ = some (.slice (cs 1).A (cs 1).n (cs 1).c) := h3.cells.2.1
        have RS := Lib.hid (h3.row 0 (by omega)).rd
        have RW := Lib.hid (h3.row 1 (by omega)).rd
        have HLS := Lib.hid RS.out.len
        have HLW := Lib.hid RW.out.len
        have l0 : (cs 0).n ≤ 17592186044416 := by rw [← HLS.out]; exact HSM.out 0 (by omega)
        have l1 : (cs 1).n ≤ 17592186044416 := by rw [← HLW.out]; exact HSM.out 1 (by omega)
        have H3 := Lib.hid h3
        have DB := Lib.hid (Below.refl w3.heap.size w3).drew
        have RB := Lib.hid (Below.refl w3.drew.heap.size w3.drew)
        clear h3 s3 e4
        generalize (cs 0).A = sA at *
        generalize (cs 0).n = sn at *
        generalize (cs 0).c = sc at *
        generalize (cs 1).A = wA at *
        generalize (cs 1).n = wn at *
        generalize (cs 1).c = wc at *
        go_wp2_with fail
        refine begin_ (fun W : World => W.cell? ⟨p, 0, none⟩ = some (.slice sA sn sc) ∧ W.cell? ⟨p, 2, none⟩ = some (.slice wA wn wc)) [16, 20] (by kernel_rfl) ?_
        have hSw : (fun W : World => W.cell? ⟨p, 0, none⟩ = some (.slice sA sn sc) ∧ W.cell? ⟨p, 2, none⟩ = some (.slice wA wn wc)) w3.drew := ⟨e0, e1⟩
        simp only [List.size_toArray, List.length_cons, List.length_nil, Nat.reduceAdd, Array.replicate_succ, Array.replicate_zero, List.push_toArray, List.append_toArray, List.nil_append, List.cons_append]
        refine move_a (i := 0) (v := ?_) rfl (by kernel_rfl) (by kernel_rfl) (by kernel_rfl) (fun _ _ _ h => h) (by rfl) ?_ ?_
        rotate_left
        · (intro w; go_simp; try with_reducible rfl)
        try simp only [Act.put, List.setIfInBounds_toArray, List.set_cons_zero, List.set_cons_succ]
        refine move_a (i := 1) (v := ?_) rfl (by kernel_rfl) (by kernel_rfl) (by kernel_rfl) (fun _ _ _ h => h) (by rfl) ?_ ?_
        rotate_left
        · (intro w; go_simp; try with_reducible rfl)
        try simp only [Act.put, List.setIfInBounds_toArray, List.set_cons_zero, List.set_cons_succ]
        refine move_a (i := 3) (v := ?_) rfl (by kernel_rfl) (by kernel_rfl) (by kernel_rfl) (fun _ _ _ h => h) (by rfl) ?_ ?_
        rotate_left
        · (intro w; go_simp; try with_reducible rfl)
        try simp only [Act.put, List.setIfInBounds_toArray, List.set_cons_zero, List.set_cons_succ]
        refine move_a (i := 4) (v := ?_) rfl (by kernel_rfl) (by kernel_rfl) (by kernel_rfl) (fun _ _ _ h => h) (by rfl) ?_ ?_
        rotate_left
        · (intro w; go_simp; try with_reducible rfl)
        try simp only [Act.put, List.setIfInBounds_toArray, List.set_cons_zero, List.set_cons_succ]
        refine move_a (i := 5) (v := ?_) rfl (by kernel_rfl) (by kernel_rfl) (by kernel_rfl) (fun _ _ _ h => h) (by rfl) ?_ ?_
        rotate_left
        · (intro w; go_simp; try with_reducible rfl)
        try simp only [Act.put, List.setIfInBounds_toArray, List.set_cons_zero, List.set_cons_succ]
        refine move_a (i := 6) (v := ?_) rfl (by kernel_rfl) (by kernel_rfl) (by kernel_rfl) (fun _ _ _ h => h) (by rfl) ?_ ?_
        rotate_left
        · (intro w; go_simp; try with_reducible rfl)
        try simp only [Act.put, List.setIfInBounds_toArray, List.set_cons_zero, List.set_cons_succ]
        refine move_a (i := 7) (v := ?_) rfl (by kernel_rfl) (by kernel_rfl) (by kernel_rfl) (fun _ _ _ h => h) (by rfl) ?_ ?_
        rotate_left
        · (intro w; go_simp; try with_reducible rfl)
        try simp only [Act.put, List.setIfInBounds_toArray, List.set_cons_zero, List.set_cons_succ]
        refine move_b [9, 16, 20] [16, 20] (i := 8) (v := ?_) rfl (by kernel_rfl) (by kernel_rfl) (by kernel_rfl) (fun _ _ _ h => h) (by kernel_rfl) (by kernel_rfl) (by kernel_rfl) (by rfl) ?_ hSw ?_
        rotate_left
        · (intro w hSw; (try dsimp only at hSw); go_simp; try with_reducible rfl)
        try simp only [Act.put, List.setIfInBounds_toArray, List.set_cons_zero, List.set_cons_succ]
        refine move_a (i := 10) (v := ?_) rfl (by kernel_rfl) (by kernel_rfl) (by kernel_rfl) (fun _ _ _ h => h) (by rfl) ?_ ?_
        rotate_left
        · (intro w; go_simp; try with_reducible rfl)
        try simp only [Act.put, List.setIfInBounds_toArray, List.set_cons_zero, List.set_cons_succ]
        refine move_a (i := 11) (v := ?_) rfl (by kernel_rfl) (by kernel_rfl) (by kernel_rfl) (fun _ _ _ h => h) (by rfl) ?_ ?_
        rotate_left
        · (intro w; go_simp; try with_reducible rfl)
        try simp only [Act.put, List.setIfInBounds_toArray, List.set_cons_zero, List.set_cons_succ]
        refine move_a (i := 12) (v := ?_) rfl (by kernel_rfl) (by kernel_rfl) (by kernel_rfl) (fun _ _ _ h => h) (by rfl) ?_ ?_
        rotate_left
        · (intro w; go_simp; try with_reducible rfl)
        try simp only [Act.put, List.setIfInBounds_toArray, List.set_cons_zero, List.set_cons_succ]
        refine move_a (i := 13) (v := ?_) rfl (by kernel_rfl) (by kernel_rfl) (by kernel_rfl) (fun _ _ _ h => h) (by rfl) ?_ ?_
        rotate_left
        · (intro w; go_simp; try with_reducible rfl)
        try simp only [Act.put, List.setIfInBounds_toArray, List.set_cons_zero, List.set_cons_succ]
        refine move_a (i := 14) (v := ?_) rfl (by kernel_rfl) (by kernel_rfl) (by kernel_rfl) (fun _ _ _ h => h) (by rfl) ?_ ?_
        rotate_left
        · (intro w; go_simp; try with_reducible rfl)
        try simp only [Act.put, List.setIfInBounds_toArray, List.set_cons_zero, List.set_cons_succ]
        refine move_b [16, 20] [16, 20] (i := 15) (v := ?_) rfl (by kernel_rfl) (by kernel_rfl) (by kernel_rfl) (fun _ _ _ h => h) (by kernel_rfl) (by kernel_rfl) (by kernel_rfl) (by rfl) ?_ hSw ?_
        rotate_left
        · (intro w hSw; (try dsimp only at hSw); go_simp; try with_reducible rfl)
        try simp only [Act.put, List.setIfInBounds_toArray, List.set_cons_zero, List.set_cons_succ]
        refine move_a (i := 17) (v := ?_) rfl (by kernel_rfl) (by kernel_rfl) (by kernel_rfl) (fun _ _ _ h => h) (by rfl) ?_ ?_
        rotate_left
        · (intro w; go_simp; try with_reducible rfl)
        try simp only [Act.put, List.setIfInBounds_toArray, List.set_cons_zero, List.set_cons_succ]
        refine move_a (i := 18) (v := ?_) rfl (by kernel_rfl) (by kernel_rfl) (by kernel_rfl) (fun _ _ _ h => h) (by rfl) ?_ ?_
        rotate_left
        · (intro w; go_simp; try with_reducible rfl)
        try simp only [Act.put, List.setIfInBounds_toArray, List.set_cons_zero, List.set_cons_succ]
        refine move_e (i := 2) (by kernel_rfl) rfl (fun K hK => ?_)
        go_simp
        refine hK _ _ (fun hS => ⟨pw_cell_below (below_alloc (Below.refl _ _) _) hS.1, pw_cell_below (below_alloc (Below.refl _ _) _) hS.2⟩) ?_
        clear hK K
        try simp only [Act.put, List.setIfInBounds_toArray, List.set_cons_zero, List.set_cons_succ]
        refine move_e (i := 9) (by kernel_rfl) rfl (fun K hK => ?_)
        (refine stepApp (w0 := w3.drew) (base := w3.drew.heap.size) rfl (.tmp 26) (.tmp 32) rfl rfl rfl (OwB.lit0 w3.drew _ (Nat.le_refl _)) (RS.out.below ((Below.refl w3.heap.size w3).alloc (Nat.le_refl _) _).drew) (RB.out.alloc (Nat.le_refl _) _) (by simp) (by omega) ?_; intro A1 n1 c1 w1 ho hb; rw [List.nil_append] at ho; have hl1 := ho.len; rw [HLS.out] at hl1; have hl1a : n1 ≤ sn := Nat.le_of_eq hl1.symm; clear hl1; have HO1 := Lib.hid ho; have HB1 := Lib.hid hb; clear ho hb)
        refine hK _ _ (fun hS => ⟨pw_cell_below (DB.out.trans HB1.out) e0, pw_cell_below (DB.out.trans HB1.out) e1⟩) ?_
        clear hK K
        try simp only [Act.put, List.setIfInBounds_toArray, List.set_cons_zero, List.set_cons_succ]
        refine move_c (i := 16) (by kernel_rfl) rfl (by rfl) (fun K hK => ?_)
        (refine stepApp (w0 := w3.drew) (base := w3.drew.heap.size) rfl (.tmp 33) (.tmp 39) rfl rfl rfl HO1.out (RW.out.below (DB.out.trans HB1.out)) HB1.out HB1.out.size (by omega) ?_; intro A2 n2 c2 w2 ho hb; have HO2 := Lib.hid ho; have HB2 : Hid (Below w3.heap.size w3 w2) := Lib.hid (DB.out.trans hb); have y0 : w2.cell? ⟨p, 0, none⟩ = some (.slice sA sn sc) := pw_cell_below HB2.out e0; have z0 := (H3.out.below HB2.out).free 0; clear ho hb)
        refine hK _ _ ?_
        clear hK K
        try simp only [Act.put, List.setIfInBounds_toArray, List.set_cons_zero, List.set_cons_succ]
        refine move_a (i := 19) (v := ?_) rfl (by kernel_rfl) (by kernel_rfl) (by kernel_rfl) (fun _ _ _ h => h) (by rfl) ?_ ?_
        rotate_left
        · (intro w; go_simp; try with_reducible rfl)
        try simp only [Act.put, List.setIfInBounds_toArray, List.set_cons_zero, List.set_cons_succ]
        refine move_c (i := 20) (by kernel_rfl) rfl (by rfl) (fun K hK => ?_)
        go_simp
        refine hK _ _ ?_
        clear hK K
        try simp only [Act.put, List.setIfInBounds_toArray, List.set_cons_zero, List.set_cons_succ]
        refine move_d (by kernel_rfl) ?_
        have HF := Lib.hid (H3.out.slotN HB2.out (i := 0) (x := ⟨A2, n2, c2⟩) (by omega) (OwF.of HO2.out))
        have HF1 : Hid (RAt (w2.setCell ⟨p, 0, none⟩ (.slice A2 n2 c2)) base p (upd cs 0 ⟨A2, n2, c2⟩) (putB d2 0 (d2.b 0 ++ d2.b 1))) := Lib.hid HF.out.1
        have HF2 : Hid (DStep w3 base p cs (w2.setCell ⟨p, 0, none⟩ (.slice A2 n2 c2)) (upd cs 0 ⟨A2, n2, c2⟩)) := Lib.hid HF.out.2
        clear y0 z0 e0 e1 HF
        generalize w2.setCell ⟨p, 0, none⟩ (.slice A2 n2 c2) = w4 at HF1 HF2 ⊢
        have c4 := HF1.out.cells.2.1
        have f4 := HF1.out.free 2
        have HG2 := Lib.hid (HF1.out.slot (w1 := w4) (i := 1) (x := nilS) (ys := []) (by omega) (grownBy_self _ _) (OwF.of (OwB.nil _ _)) (fun g e => by cases e))
        have HG3 : Hid (RAt (w4.setCell ⟨p, 2, none⟩ (.slice none 0 0)) base p (upd (upd cs 0 ⟨A2, n2, c2⟩) 1 nilS) (syncB d2 0)) := Lib.hid HG2.out.1
        have HG4 : Hid (DStep w4 base p (upd cs 0 ⟨A2, n2, c2⟩) (w4.setCell ⟨p, 2, none⟩ (.slice none 0 0)) (upd (upd cs 0 ⟨A2, n2, c2⟩) 1 nilS)) := Lib.hid HG2.out.2
        clear HG2
        go_wp2
        go_ret
        refine ⟨by rw [HA.out]; rfl, _, ?_, S3.out.trans (HF2.out.trans HG4.out)⟩
        rw [HA.out]
        show RAt _ _ _ _ (syncD d 0)
        rw [HS.out, HG.out]
        exact HG3.out
      · have e7 := h3.cells.2.2.2.2.2.2.2
        rw [HKK.out] at e7
        have HO := Lib.hid (roff_any h3 HSM.out d.k)
        clear h3 s3
        go_wp2_with fail
        refine HO.out.mono ?_
        rintro e w4 hret
        have HRt := Lib.hid (RetF.from S3.out hret)
        clear hret
        obtain ⟨rfl, cs4, h4, s4⟩ := HRt.out
        go_wp2
        go_ret
        refine ⟨by rw [HA.out]; rfl, cs4, ?_, s4⟩
        rw [HA.out]
        show RAt _ _ _ _ (syncD d 0)
        rw [HS.out, HG.out]
        exact h4
    · have HA := Lib.hid (HA.out.trans (if_pos (by rw [show rdy d 0 = ans d.off from rdy0 0 (by omega), ho]; decide)))
      rw [show rdy d 0 = 40 from by rw [show rdy d 0 = ans d.off from rdy0 0 (by omega), ho]; rfl] at HA
      rw [ho] at e4
      simp only [Bool.not_true] at e4
      clear h hd ho
      go_enter Try.func31, Try.ntmps31
      go_wp2
      go_ret
      exact ⟨by rw [HA.out]; rfl, cs, by rw [HA.out]; exact H.out, DStep.refl _ _ _ _⟩
  · by_cases hf1 : f = 1
    · subst hf1
      cases ho : d.off
      · have HA := Lib.hid (HA.out.trans (if_neg (by rw [show rdy d 1 = ans d.off from rdy0 1 (by omega), ho]; decide)))
        rw [ho] at e4
        simp only [Bool.not_false] at e4
        have HRaw := Lib.hid (rraw_any h hd.n hd.a)
        have HKK := Lib.hid (rawD_off d).2.2
        have HBB := Lib.hid (rawD_off d).2.1
        have HSM := Lib.hid hd.raw
        have HS : Hid (syncD d 1 = if (rawD d).2 then gone d else syncB (gone d) 1) := Lib.hid rfl
        have HG : Hid (gone d = if (rawD d).2 then offD (rawD d).1 d.k else (rawD d).1) := Lib.hid rfl
        clear h hd ho
        generalize (rawD d).2 = gg at HRaw HG HA HS
        generalize (rawD d).1 = d2 at HRaw HG HKK HSM HBB
        go_enter Try.func31, Try.ntmps31
        go_wp2_with fail
        refine HRaw.out.mono ?_
        rintro e w3 ⟨rfl, h3, s3⟩
        have S3 := Lib.hid s3
        cases gg
        · have e0 : w3.cell? ⟨p, 1, none⟩ = some (.slice (cs 2).A (cs 2).n (cs 2).c) := h3.cells.2.2.1
          have e1 : w3.cell? ⟨p, 3, none⟩ = some (.slice (cs 3).A (cs 3).n (cs 3).c) := h3.cells.2.2.2.1
          have RS := Lib.hid (h3.row 2 (by omega)).rd
          have RW := Lib.hid (h3.row 3 (by omega)).rd
          have HLS := Lib.hid RS.out.len
          have HLW := Lib.hid RW.out.len
          have l0 : (cs 2).n ≤ 17592186044416 := by rw [← HLS.out]; exact HSM.out 2 (by omega)
          have l1 : (cs 3).n ≤ 17592186044416 := by rw [← HLW.out]; exact HSM.out 3 (by omega)
          have H3 := Lib.hid h3
          have DB := Lib.hid (Below.refl w3.heap.size w3).drew
          have RB := Lib.hid (Below.refl w3.drew.heap.size w3.drew)
          clear h3 s3 e4
          generalize (cs 2).A = sA at *
          generalize (cs 2).n = sn at *
          generalize (cs 2).c = sc at *
          generalize (cs 3).A = wA at *
          generalize (cs 3).n = wn at *
          generalize (cs 3).c = wc at *
          go_wp2_with fail
          refine begin_ (fun W : World => W.cell? ⟨p, 1, none⟩ = some (.slice sA sn sc) ∧ W.cell? ⟨p, 3, none⟩ = some (.slice wA wn wc)) [16, 20] (by kernel_rfl) ?_
          have hSw : (fun W : World => W.cell? ⟨p, 1, none⟩ = some (.slice sA sn sc) ∧ W.cell? ⟨p, 3, none⟩ = some (.slice wA wn wc)) w3.drew := ⟨e0, e1⟩
          simp only [List.size_toArray, List.length_cons, List.length_nil, Nat.reduceAdd, Array.replicate_succ, Array.replicate_zero, List.push_toArray, List.append_toArray, List.nil_append, List.cons_append]
          refine move_a (i := 0) (v := ?_) rfl (by kernel_rfl) (by kernel_rfl) (by kernel_rfl) (fun _ _ _ h => h) (by rfl) ?_ ?_
          rotate_left
          · (intro w; go_simp; try with_reducible rfl)
          try simp only [Act.put, List.setIfInBounds_toArray, List.set_cons_zero, List.set_cons_succ]
          refine move_a (i := 1) (v := ?_) rfl (by kernel_rfl) (by kernel_rfl) (by kernel_rfl) (fun _ _ _ h => h) (by rfl) ?_ ?_
          rotate_left
          · (intro w; go_simp; try with_reducible rfl)
          try simp only [Act.put, List.setIfInBounds_toArray, List.set_cons_zero, List.set_cons_succ]
          refine move_a (i := 3) (v := ?_) rfl (by kernel_rfl) (by kernel_rfl) (by kernel_rfl) (fun _ _ _ h => h) (by rfl) ?_ ?_
          rotate_left
          · (intro w; go_simp; try with_reducible rfl)
          try simp only [Act.put, List.setIfInBounds_toArray, List.set_cons_zero, List.set_cons_succ]
          refine move_a (i := 4) (v := ?_) rfl (by kernel_rfl) (by kernel_rfl) (by kernel_rfl) (fun _ _ _ h => h) (by rfl) ?_ ?_
          rotate_left
          · (intro w; go_simp; try with_reducible rfl)
          try simp only [Act.put, List.setIfInBounds_toArray, List.set_cons_zero, List.set_cons_succ]
          refine move_a (i := 5) (v := ?_) rfl (by kernel_rfl) (by kernel_rfl) (by kernel_rfl) (fun _ _ _ h => h) (by rfl) ?_ ?_
          rotate_left
          · (intro w; go_simp; try with_reducible rfl)
          try simp only [Act.put, List.setIfInBounds_toArray, List.set_cons_zero, List.set_cons_succ]
          refine move_a (i := 6) (v := ?_) rfl (by kernel_rfl) (by kernel_rfl) (by kernel_rfl) (fun _ _ _ h => h) (by rfl) ?_ ?_
          rotate_left
          · (intro w; go_simp; try with_reducible rfl)
          try simp only [Act.put, List.setIfInBounds_toArray, List.set_cons_zero, List.set_cons_succ]
          refine move_a (i := 7) (v := ?_) rfl (by kernel_rfl) (by kernel_rfl) (by kernel_rfl) (fun _ _ _ h => h) (by rfl) ?_ ?_
          rotate_left
          · (intro w; go_simp; try with_reducible rfl)
          try simp only [Act.put, List.setIfInBounds_toArray, List.set_cons_zero, List.set_cons_succ]
          refine move_b [9, 16, 20] [16, 20] (i := 8) (v := ?_) rfl (by kernel_rfl) (by kernel_rfl) (by kernel_rfl) (fun _ _ _ h => h) (by kernel_rfl) (by kernel_rfl) (by kernel_rfl) (by rfl) ?_ hSw ?_
          rotate_left
          · (intro w hSw; (try dsimp only at hSw); go_simp; try with_reducible rfl)
          try simp only [Act.put, List.setIfInBounds_toArray, List.set_cons_zero, List.set_cons_succ]
          refine move_a (i := 10) (v := ?_) rfl (by kernel_rfl) (by kernel_rfl) (by kernel_rfl) (fun _ _ _ h => h) (by rfl) ?_ ?_
          rotate_left
          · (intro w; go_simp; try with_reducible rfl)
          try simp only [Act.put, List.setIfInBounds_toArray, List.set_cons_zero, List.set_cons_succ]
          refine move_a (i := 11) (v := ?_) rfl (by kernel_rfl) (by kernel_rfl) (by kernel_rfl) (fun _ _ _ h => h) (by rfl) ?_ ?_
          rotate_left
          · (intro w; go_simp; try with_reducible rfl)
          try simp only [Act.put, List.setIfInBounds_toArray, List.set_cons_zero, List.set_cons_succ]
          refine move_a (i := 12) (v := ?_) rfl (by kernel_rfl) (by kernel_rfl) (by kernel_rfl) (fun _ _ _ h => h) (by rfl) ?_ ?_
          rotate_left
          · (intro w; go_simp; try with_reducible rfl)
          try simp only [Act.put, List.setIfInBounds_toArray, List.set_cons_zero, List.set_cons_succ]
          refine move_a (i := 13) (v := ?_) rfl (by kernel_rfl) (by kernel_rfl) (by kernel_rfl) (fun _ _ _ h => h) (by rfl) ?_ ?_
          rotate_left
          · (intro w; go_simp; try with_reducible rfl)
          try simp only [Act.put, List.setIfInBounds_toArray, List.set_cons_zero, List.set_cons_succ]
          refine move_a (i := 14) (v := ?_) rfl (by kernel_rfl) (by kernel_rfl) (by kernel_rfl) (fun _ _ _ h => h) (by rfl) ?_ ?_
          rotate_left
          · (intro w; go_simp; try with_reducible rfl)
          try simp only [Act.put, List.setIfInBounds_toArray, List.set_cons_zero, List.set_cons_succ]
          refine move_b [16, 20] [16, 20] (i := 15) (v := ?_) rfl (by kernel_rfl) (by kernel_rfl) (by kernel_rfl) (fun _ _ _ h => h) (by kernel_rfl) (by kernel_rfl) (by kernel_rfl) (by rfl) ?_ hSw ?_
          rotate_left
          · (intro w hSw; (try dsimp only at hSw); go_simp; try with_reducible rfl)
          try simp only [Act.put, List.setIfInBounds_toArray, List.set_cons_zero, List.set_cons_succ]
          refine move_a (i := 17) (v := ?_) rfl (by kernel_rfl) (by kernel_rfl) (by kernel_rfl) (fun _ _ _ h => h) (by rfl) ?_ ?_
          rotate_left
          · (intro w; go_simp; try with_reducible rfl)
          try simp only [Act.put, List.setIfInBounds_toArray, List.set_cons_zero, List.set_cons_succ]
          refine move_a (i := 18) (v := ?_) rfl (by kernel_rfl) (by kernel_rfl) (by kernel_rfl) (fun _ _ _ h => h) (by rfl) ?_ ?_
          rotate_left
          · (intro w; go_simp; try with_reducible rfl)
          try simp only [Act.put, List.setIfInBounds_toArray, List.set_cons_zero, List.set_cons_succ]
          refine move_e (i := 2) (by kernel_rfl) rfl (fun K hK => ?_)
          go_simp
          refine hK _ _ (fun hS => ⟨pw_cell_below (below_alloc (Below.refl _ _) _) hS.1, pw_cell_below (below_alloc (Below.refl _ _) _) hS.2⟩) ?_
          clear hK K
          try simp only [Act.put, List.setIfInBounds_toArray, List.set_cons_zero, List.set_cons_succ]
          refine move_e (i := 9) (by kernel_rfl) rfl (fun K hK => ?_)
          (refine stepApp (w0 := w3.drew) (base := w3.drew.heap.size) rfl (.tmp 26) (.tmp 32) rfl rfl rfl (OwB.lit0 w3.drew _ (Nat.le_refl _)) (RS.out.below ((Below.refl w3.heap.size w3).alloc (Nat.le_refl _) _).drew) (RB.out.alloc (Nat.le_refl _) _) (by simp) (by omega) ?_; intro A1 n1 c1 w1 ho hb; rw [List.nil_append] at ho; have hl1 := ho.len; rw [HLS.out] at hl1; have hl1a : n1 ≤ sn := Nat.le_of_eq hl1.symm; clear hl1; have HO1 := Lib.hid ho; have HB1 := Lib.hid hb; clear ho hb)
          refine hK _ _ (fun hS => ⟨pw_cell_below (DB.out.trans HB1.out) e0, pw_cell_below (DB.out.trans HB1.out) e1⟩) ?_
          clear hK K
          try simp only [Act.put, List.setIfInBounds_toArray, List.set_cons_zero, List.set_cons_succ]
          refine move_c (i := 16) (by kernel_rfl) rfl (by rfl) (fun K hK => ?_)
          (refine stepApp (w0 := w3.drew) (base := w3.drew.heap.size) rfl (.tmp 33) (.tmp 39) rfl rfl rfl HO1.out (RW.out.below (DB.out.trans HB1.out)) HB1.out HB1.out.size (by omega) ?_; intro A2 n2 c2 w2 ho hb; have HO2 := Lib.hid ho; have HB2 : Hid (Below w3.heap.size w3 w2) := Lib.hid (DB.out.trans hb); have y0 : w2.cell? ⟨p, 1, none⟩ = some (.slice sA sn sc) := pw_cell_below HB2.out e0; have z0 := (H3.out.below HB2.out).free 1; clear ho hb)
          refine hK _ _ ?_
          clear hK K
          try simp only [Act.put, List.setIfInBounds_toArray, List.set_cons_zero, List.set_cons_succ]
          refine move_a (i := 19) (v := ?_) rfl (by kernel_rfl) (by kernel_rfl) (by kernel_rfl) (fun _ _ _ h => h) (by rfl) ?_ ?_
          rotate_left
          · (intro w; go_simp; try with_reducible rfl)
          try simp only [Act.put, List.setIfInBounds_toArray, List.set_cons_zero, List.set_cons_succ]
          refine move_c (i := 20) (by kernel_rfl) rfl (by rfl) (fun K hK => ?_)
          go_simp
          refine hK _ _ ?_
          clear hK K
          try simp only [Act.put, List.setIfInBounds_toArray, List.set_cons_zero, List.set_cons_succ]
          refine move_d (by kernel_rfl) ?_
          have HF := Lib.hid (H3.out.slotN HB2.out (i := 2) (x := ⟨A2, n2, c2⟩) (by omega) (OwF.of HO2.out))
          have HF1 : Hid (RAt (w2.setCell ⟨p, 1, none⟩ (.slice A2 n2 c2)) base p (upd cs 2 ⟨A2, n2, c2⟩) (putB d2 2 (d2.b 2 ++ d2.b 3))) := Lib.hid HF.out.1
          have HF2 : Hid (DStep w3 base p cs (w2.setCell ⟨p, 1, none⟩ (.slice A2 n2 c2)) (upd cs 2 ⟨A2, n2, c2⟩)) := Lib.hid HF.out.2
          clear y0 z0 e0 e1 HF
          generalize w2.setCell ⟨p, 1, none⟩ (.slice A2 n2 c2) = w4 at HF1 HF2 ⊢
          have c4 := HF1.out.cells.2.2.2.1
          have f4 := HF1.out.free 3
          have HG2 := Lib.hid (HF1.out.slot (w1 := w4) (i := 3) (x := nilS) (ys := []) (by omega) (grownBy_self _ _) (OwF.of (OwB.nil _ _)) (fun g e => by cases e))
          have HG3 : Hid (RAt (w4.setCell ⟨p, 3, none⟩ (.slice none 0 0)) base p (upd (upd cs 2 ⟨A2, n2, c2⟩) 3 nilS) (syncB d2 1)) := Lib.hid HG2.out.1
          have HG4 : Hid (DStep w4 base p (upd cs 2 ⟨A2, n2, c2⟩) (w4.setCell ⟨p, 3, none⟩ (.slice none 0 0)) (upd (upd cs 2 ⟨A2, n2, c2⟩) 3 nilS)) := Lib.hid HG2.out.2
          clear HG2
          go_wp2
          go_ret
          refine ⟨by rw [HA.out]; rfl, _, ?_, S3.out.trans (HF2.out.trans HG4.out)⟩
          rw [HA.out]
          show RAt _ _ _ _ (syncD d 1)
          rw [HS.out, HG.out]
          exact HG3.out
        · have e7 := h3.cells.2.2.2.2.2.2.2
          rw [HKK.out] at e7
          have HO := Lib.hid (roff_any h3 HSM.out d.k)
          clear h3 s3
          go_wp2_with fail
          refine HO.out.mono ?_
          rintro e w4 hret
          have HRt := Lib.hid (RetF.from S3.out hret)
          clear hret
          obtain ⟨rfl, cs4, h4, s4⟩ := HRt.out
          go_wp2
          go_ret
          refine ⟨by rw [HA.out]; rfl, cs4, ?_, s4⟩
          rw [HA.out]
          show RAt _ _ _ _ (syncD d 1)
          rw [HS.out, HG.out]
          exact h4
      · have HA := Lib.hid (HA.out.trans (if_pos (by rw [show rdy d 1 = ans d.off from rdy0 1 (by omega), ho]; decide)))
        rw [show rdy d 1 = 40 from by rw [show rdy d 1 = ans d.off from rdy0 1 (by omega), ho]; rfl] at HA
        rw [ho] at e4
        simp only [Bool.not_true] at e4
        clear h hd ho
        go_enter Try.func31, Try.ntmps31
        go_wp2
        go_ret
        exact ⟨by rw [HA.out]; rfl, cs, by rw [HA.out]; exact H.out, DStep.refl _ _ _ _⟩
    · have HA := Lib.hid (HA.out.trans (if_pos (by rw [rdy_bad hf0 hf1]; decide)))
      rw [rdy_bad hf0 hf1] at HA
      have hb0 : (f != 0) = true := by simp [hf0]
      have hb1 : (f != 1) = true := by simp [hf1]
      clear h hd hf0 hf1 e4
      go_enter Try.func31, Try.ntmps31
      go_wp2
      go_ret
      exact ⟨by rw [HA.out]; rfl, cs, by rw [HA.out]; exact H.out, DStep.refl _ _ _ _⟩
end Go.Proofs.Ytbmdglbhmianjaa.refw
