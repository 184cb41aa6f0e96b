/- The document's disk: Append. -/
import Derived.Test.YtbmdglbhmianjaaRefOff
set_option linter.unusedVariables false
set_option linter.unusedSimpArgs false
namespace Go.Proofs.Ytbmdglbhmianjaa.refw
open Go.RowKit Go.Proofs.YtbmdglbhmianjaaW.PrintWords Go.Proofs.Ytbmdglbhmianjaa.base Go.Proofs.Ytbmdglbhmianjaa.mem Go.Proofs.Ytbmdglbhmianjaa.keep Go.Proofs.Ytbmdglbhmianjaa.diskp Go.Proofs.Ytbmdglbhmianjaa.diskr Go.Proofs.Ytbmdglbhmianjaa.refr Go.Proofs.Ytbmdglbhmianjaa.ordt Go.Proofs.Ytbmdglbhmianjaa.clone Go.Proofs.Ytbmdglbhmianjaa.diskw

theorem rdy0 {d : D} (f : Nat) (hf : f < 2) : rdy d (f : Int) = ans d.off := by
  unfold rdy ans
  rw [if_neg (by omega)]
theorem rdy_bad {d : D} {f : Int} (h0 : f ≠ 0) (h1 : f ≠ 1) : rdy d f = 1 := by
  unfold rdy
  rw [if_pos (by omega)]
set_option maxHeartbeats 8000000 in
theorem rappend_any {w : World} {base p : Nat} {cs : Nat → Sl} {d : D} (h : RAt w base p cs d) (hd : Fit d) (f : Int) (A : Option Addr) (m c : Nat) (ys : List Int) (hr : RdB w A m ys) (hsz : ∀ i, i < 4 → (d.b i).length + m ≤ 17592186044416) :
    Calls Try.prog 30 #[.pointer (some ⟨p, 0, none⟩), .int .i64 f, .slice A m c] w (RetF w base p cs (.int .i64 (appR d f ys).2) (appR d f ys).1) := by
  have H := Lib.hid h
  have HR := Lib.hid hr
  have e4 := h.cells.2.2.2.2.1
  have HA : Hid (appR d f ys = if rdy d f ≠ 0 then (d, rdy d f) else (appD d f.toNat ys, ans (rawD d).2)) := Lib.hid rfl
  have hml := hr.len
  by_cases hf0 : f = 0
  · subst hf0
    cases ho : d.off
    · have HA := Lib.hid (HA.out.trans (if_neg (by rw [show rdy d 0 = ans d.off from rdy0 0 (by omega), ho]; decide)))
      rw [ho] at e4
      simp only [Bool.not_false] at e4
      have e1 : w.cell? ⟨p, 2, none⟩ = some (.slice (cs 1).A (cs 1).n (cs 1).c) := h.cells.2.1
      have RW := Lib.hid (h.row 1 (by omega)).rd
      have HLW := Lib.hid RW.out.len
      have hl := hsz 1 (by omega)
      rw [HLW.out] at hl
      have HSZ := Lib.hid hsz
      have HD := Lib.hid hd
      have DB := Lib.hid (Below.refl w.heap.size w).drew
      have RB := Lib.hid (Below.refl w.drew.heap.size w.drew)
      clear h hd hr hsz ho
      generalize (cs 1).A = wA at *
      generalize (cs 1).n = wn at *
      generalize (cs 1).c = wc at *
      go_enter Try.func30, Try.ntmps30
      go_wp2_with fail
      refine begin_ (fun W : World => W.cell? ⟨p, 2, none⟩ = some (.slice wA wn wc)) [9, 11, 15] (by kernel_rfl) ?_
      have hSw : (fun W : World => W.cell? ⟨p, 2, none⟩ = some (.slice wA wn wc)) w.drew := e1
      simp only [List.size_toArray, List.length_cons, List.length_nil, Nat.reduceAdd, Array.replicate_succ, Array.replicate_zero, List.push_toArray, List.append_toArray, List.nil_append, List.cons_append]
      refine move_a (i := 0) (v := ?_) rfl (by kernel_rfl) (by kernel_rfl) (by kernel_rfl) (fun _ _ _ h => h) (by rfl) ?_ ?_
      rotate_left
      · (intro w; go_simp; try with_reducible rfl)
      try simp only [Act.put, List.setIfInBounds_toArray, List.set_cons_zero, List.set_cons_succ]
      refine move_a (i := 1) (v := ?_) rfl (by kernel_rfl) (by kernel_rfl) (by kernel_rfl) (fun _ _ _ h => h) (by rfl) ?_ ?_
      rotate_left
      · (intro w; go_simp; try with_reducible rfl)
      try simp only [Act.put, List.setIfInBounds_toArray, List.set_cons_zero, List.set_cons_succ]
      refine move_a (i := 3) (v := ?_) rfl (by kernel_rfl) (by kernel_rfl) (by kernel_rfl) (fun _ _ _ h => h) (by rfl) ?_ ?_
      rotate_left
      · (intro w; go_simp; try with_reducible rfl)
      try simp only [Act.put, List.setIfInBounds_toArray, List.set_cons_zero, List.set_cons_succ]
      refine move_a (i := 4) (v := ?_) rfl (by kernel_rfl) (by kernel_rfl) (by kernel_rfl) (fun _ _ _ h => h) (by rfl) ?_ ?_
      rotate_left
      · (intro w; go_simp; try with_reducible rfl)
      try simp only [Act.put, List.setIfInBounds_toArray, List.set_cons_zero, List.set_cons_succ]
      refine move_a (i := 5) (v := ?_) rfl (by kernel_rfl) (by kernel_rfl) (by kernel_rfl) (fun _ _ _ h => h) (by rfl) ?_ ?_
      rotate_left
      · (intro w; go_simp; try with_reducible rfl)
      try simp only [Act.put, List.setIfInBounds_toArray, List.set_cons_zero, List.set_cons_succ]
      refine move_a (i := 6) (v := ?_) rfl (by kernel_rfl) (by kernel_rfl) (by kernel_rfl) (fun _ _ _ h => h) (by rfl) ?_ ?_
      rotate_left
      · (intro w; go_simp; try with_reducible rfl)
      try simp only [Act.put, List.setIfInBounds_toArray, List.set_cons_zero, List.set_cons_succ]
      refine move_a (i := 7) (v := ?_) rfl (by kernel_rfl) (by kernel_rfl) (by kernel_rfl) (fun _ _ _ h => h) (by rfl) ?_ ?_
      rotate_left
      · (intro w; go_simp; try with_reducible rfl)
      try simp only [Act.put, List.setIfInBounds_toArray, List.set_cons_zero, List.set_cons_succ]
      refine move_b [9, 11, 15] [9, 11, 15] (i := 8) (v := ?_) rfl (by kernel_rfl) (by kernel_rfl) (by kernel_rfl) (fun _ _ _ h => h) (by kernel_rfl) (by kernel_rfl) (by kernel_rfl) (by rfl) ?_ hSw ?_
      rotate_left
      · (intro w hSw; (try dsimp only at hSw); go_simp; try with_reducible rfl)
      try simp only [Act.put, List.setIfInBounds_toArray, List.set_cons_zero, List.set_cons_succ]
      refine move_a (i := 10) (v := ?_) rfl (by kernel_rfl) (by kernel_rfl) (by kernel_rfl) (fun _ _ _ h => h) (by rfl) ?_ ?_
      rotate_left
      · (intro w; go_simp; try with_reducible rfl)
      try simp only [Act.put, List.setIfInBounds_toArray, List.set_cons_zero, List.set_cons_succ]
      refine move_a (i := 12) (v := ?_) rfl (by kernel_rfl) (by kernel_rfl) (by kernel_rfl) (fun _ _ _ h => h) (by rfl) ?_ ?_
      rotate_left
      · (intro w; go_simp; try with_reducible rfl)
      try simp only [Act.put, List.setIfInBounds_toArray, List.set_cons_zero, List.set_cons_succ]
      refine move_a (i := 13) (v := ?_) rfl (by kernel_rfl) (by kernel_rfl) (by kernel_rfl) (fun _ _ _ h => h) (by rfl) ?_ ?_
      rotate_left
      · (intro w; go_simp; try with_reducible rfl)
      try simp only [Act.put, List.setIfInBounds_toArray, List.set_cons_zero, List.set_cons_succ]
      refine move_e (i := 2) (by kernel_rfl) rfl (fun K hK => ?_)
      go_simp
      refine hK _ _ (fun hS => pw_cell_below (below_alloc (Below.refl _ _) _) hS) ?_
      clear hK K
      try simp only [Act.put, List.setIfInBounds_toArray, List.set_cons_zero, List.set_cons_succ]
      refine move_c (i := 9) (by kernel_rfl) rfl (by rfl) (fun K hK => ?_)
      (refine stepApp (w0 := w.drew) (base := w.drew.heap.size) rfl (.tmp 20) (.tmp 26) rfl rfl rfl (OwB.lit0 w.drew _ (Nat.le_refl _)) (RW.out.below ((Below.refl w.heap.size w).alloc (Nat.le_refl _) _).drew) (RB.out.alloc (Nat.le_refl _) _) (by simp) (by omega) ?_; intro A1 n1 c1 w1 ho hb; rw [List.nil_append] at ho; have hl1 := ho.len; rw [HLW.out] at hl1; have hl1a : n1 ≤ wn := Nat.le_of_eq hl1.symm; clear hl1; have HO1 := Lib.hid ho; have HB1 := Lib.hid hb; clear ho hb)
      refine hK _ _ ?_
      clear hK K
      try simp only [Act.put, List.setIfInBounds_toArray, List.set_cons_zero, List.set_cons_succ]
      refine move_c (i := 11) (by kernel_rfl) rfl (by rfl) (fun K hK => ?_)
      (refine stepApp (w0 := w.drew) (base := w.drew.heap.size) rfl (.tmp 27) (.tmp 28) rfl rfl rfl HO1.out (HR.out.below (DB.out.trans HB1.out)) HB1.out HB1.out.size (by omega) ?_; intro A2 n2 c2 w2 ho hb; have HO2 := Lib.hid ho; have HB2 : Hid (Below w.heap.size w w2) := Lib.hid (DB.out.trans hb); have HC := Lib.hid (H.out.below HB2.out).cells; have y1 : w2.cell? ⟨p, 2, none⟩ = some (.slice wA wn wc) := pw_cell_below HB2.out e1; have z1 := (H.out.below HB2.out).free 2; clear ho hb)
      refine hK _ _ ?_
      clear hK K
      try simp only [Act.put, List.setIfInBounds_toArray, List.set_cons_zero, List.set_cons_succ]
      refine move_a (i := 14) (v := ?_) rfl (by kernel_rfl) (by kernel_rfl) (by kernel_rfl) (fun _ _ _ h => h) (by rfl) ?_ ?_
      rotate_left
      · (intro w; go_simp; try with_reducible rfl)
      try simp only [Act.put, List.setIfInBounds_toArray, List.set_cons_zero, List.set_cons_succ]
      refine move_c (i := 15) (by kernel_rfl) rfl (by rfl) (fun K hK => ?_)
      go_simp
      refine hK _ _ ?_
      clear hK K
      try simp only [Act.put, List.setIfInBounds_toArray, List.set_cons_zero, List.set_cons_succ]
      refine move_d (by kernel_rfl) ?_
      have HF := Lib.hid (H.out.slotN HB2.out (i := 1) (x := ⟨A2, n2, c2⟩) (by omega) (OwF.of HO2.out))
      have HF1 : Hid (RAt (w2.setCell ⟨p, 2, none⟩ (.slice A2 n2 c2)) base p (upd cs 1 ⟨A2, n2, c2⟩) (putB d 1 (d.b 1 ++ ys))) := Lib.hid HF.out.1
      have HF2 : Hid (DStep w base p cs (w2.setCell ⟨p, 2, none⟩ (.slice A2 n2 c2)) (upd cs 1 ⟨A2, n2, c2⟩)) := Lib.hid HF.out.2
      have HRaw := Lib.hid (rraw_any HF1.out HD.out.n HD.out.a)
      have HAP : Hid (appD d 0 ys = gone (putB d 1 (d.b 1 ++ ys))) := Lib.hid rfl
      have hrp := rawD_put d 1 (d.b 1 ++ ys)
      rw [hrp] at HRaw
      have HG : Hid (gone (putB d 1 (d.b 1 ++ ys)) = if (rawD d).2 then offD (rawD (putB d 1 (d.b 1 ++ ys))).1 d.k else (rawD (putB d 1 (d.b 1 ++ ys))).1) := Lib.hid (by unfold gone; rw [hrp]; rfl)
      have hko := rawD_off (putB d 1 (d.b 1 ++ ys))
      have hsm : Small (rawD (putB d 1 (d.b 1 ++ ys))).1.b := by
        rw [hko.2.1]
        intro j hj
        show (upd d.b 1 (d.b 1 ++ ys) j).length ≤ _
        by_cases hji : j = 1
        · subst hji; rw [upd_same, List.length_append, hml]; exact HSZ.out _ hj
        · rw [upd_ne _ _ hji]; exact HD.out.b j hj
      have hkk : (rawD (putB d 1 (d.b 1 ++ ys))).1.k = d.k := hko.2.2
      have HKK := Lib.hid hkk
      have HSM := Lib.hid hsm
      clear hrp hko hsm hkk HF y1 z1 e1 e4 HC HSZ
      generalize (rawD d).2 = gg at HRaw HG HA
      generalize (rawD (putB d 1 (d.b 1 ++ ys))).1 = d2 at HRaw HG HKK HSM
      go_wp2_with fail
      refine HRaw.out.mono ?_
      rintro e w3 ⟨rfl, h3, s3⟩
      have S3 := Lib.hid (HF2.out.trans s3)
      have H3 := Lib.hid h3
      cases gg
      · go_wp2
        go_ret
        refine ⟨by rw [HA.out]; rfl, _, ?_, S3.out⟩
        rw [HA.out]
        show RAt _ _ _ _ (appD d 0 ys)
        rw [HAP.out, HG.out]
        exact H3.out
      · have e7 := h3.cells.2.2.2.2.2.2.2
        rw [HKK.out] at e7
        have HO := Lib.hid (roff_any h3 HSM.out d.k)
        clear h3 s3
        go_wp2_with fail
        refine HO.out.mono ?_
        rintro e w4 hret
        have HRt := Lib.hid (RetF.from S3.out hret)
        clear hret
        obtain ⟨rfl, cs4, h4, s4⟩ := HRt.out
        go_wp2
        go_ret
        refine ⟨by rw [HA.out]; rfl, cs4, ?_, s4⟩
        rw [HA.out]
        show RAt _ _ _ _ (appD d 0 ys)
        rw [HAP.out, HG.out]
        exact h4
    · have HA := Lib.hid (HA.out.trans (if_pos (by rw [show rdy d 0 = ans d.off from rdy0 0 (by omega), ho]; decide)))
      rw [show rdy d 0 = 40 from by rw [show rdy d 0 = ans d.off from rdy0 0 (by omega), ho]; rfl] at HA
      rw [ho] at e4
      simp only [Bool.not_true] at e4
      clear h hd hr hsz ho
      go_enter Try.func30, Try.ntmps30
      go_wp2
      go_ret
      exact ⟨by rw [HA.out]; rfl, cs, by rw [HA.out]; exact H.out, DStep.refl _ _ _ _⟩
  · by_cases hf1 : f = 1
    · subst hf1
      cases ho : d.off
      · have HA := Lib.hid (HA.out.trans (if_neg (by rw [show rdy d 1 = ans d.off from rdy0 1 (by omega), ho]; decide)))
        rw [ho] at e4
        simp only [Bool.not_false] at e4
        have e1 : w.cell? ⟨p, 3, none⟩ = some (.slice (cs 3).A (cs 3).n (cs 3).c) := h.cells.2.2.2.1
        have RW := Lib.hid (h.row 3 (by omega)).rd
        have HLW := Lib.hid RW.out.len
        have hl := hsz 3 (by omega)
        rw [HLW.out] at hl
        have HSZ := Lib.hid hsz
        have HD := Lib.hid hd
        have DB := Lib.hid (Below.refl w.heap.size w).drew
        have RB := Lib.hid (Below.refl w.drew.heap.size w.drew)
        clear h hd hr hsz ho
        generalize (cs 3).A = wA at *
        generalize (cs 3).n = wn at *
        generalize (cs 3).c = wc at *
        go_enter Try.func30, Try.ntmps30
        go_wp2_with fail
        refine begin_ (fun W : World => W.cell? ⟨p, 3, none⟩ = some (.slice wA wn wc)) [9, 11, 15] (by kernel_rfl) ?_
        have hSw : (fun W : World => W.cell? ⟨p, 3, none⟩ = some (.slice wA wn wc)) w.drew := e1
        simp only [List.size_toArray, List.length_cons, List.length_nil, Nat.reduceAdd, Array.replicate_succ, Array.replicate_zero, List.push_toArray, List.append_toArray, List.nil_append, List.cons_append]
        refine move_a (i := 0) (v := ?_) rfl (by kernel_rfl) (by kernel_rfl) (by kernel_rfl) (fun _ _ _ h => h) (by rfl) ?_ ?_
        rotate_left
        · (intro w; go_simp; try with_reducible rfl)
        try simp only [Act.put, List.setIfInBounds_toArray, List.set_cons_zero, List.set_cons_succ]
        refine move_a (i := 1) (v := ?_) rfl (by kernel_rfl) (by kernel_rfl) (by kernel_rfl) (fun _ _ _ h => h) (by rfl) ?_ ?_
        rotate_left
        · (intro w; go_simp; try with_reducible rfl)
        try simp only [Act.put, List.setIfInBounds_toArray, List.set_cons_zero, List.set_cons_succ]
        refine move_a (i := 3) (v := ?_) rfl (by kernel_rfl) (by kernel_rfl) (by kernel_rfl) (fun _ _ _ h => h) (by rfl) ?_ ?_
        rotate_left
        · (intro w; go_simp; try with_reducible rfl)
        try simp only [Act.put, List.setIfInBounds_toArray, List.set_cons_zero, List.set_cons_succ]
        refine move_a (i := 4) (v := ?_) rfl (by kernel_rfl) (by kernel_rfl) (by kernel_rfl) (fun _ _ _ h => h) (by rfl) ?_ ?_
        rotate_left
        · (intro w; go_simp; try with_reducible rfl)
        try simp only [Act.put, List.setIfInBounds_toArray, List.set_cons_zero, List.set_cons_succ]
        refine move_a (i := 5) (v := ?_) rfl (by kernel_rfl) (by kernel_rfl) (by kernel_rfl) (fun _ _ _ h => h) (by rfl) ?_ ?_
        rotate_left
        · (intro w; go_simp; try with_reducible rfl)
        try simp only [Act.put, List.setIfInBounds_toArray, List.set_cons_zero, List.set_cons_succ]
        refine move_a (i := 6) (v := ?_) rfl (by kernel_rfl) (by kernel_rfl) (by kernel_rfl) (fun _ _ _ h => h) (by rfl) ?_ ?_
        rotate_left
        · (intro w; go_simp; try with_reducible rfl)
        try simp only [Act.put, List.setIfInBounds_toArray, List.set_cons_zero, List.set_cons_succ]
        refine move_a (i := 7) (v := ?_) rfl (by kernel_rfl) (by kernel_rfl) (by kernel_rfl) (fun _ _ _ h => h) (by rfl) ?_ ?_
        rotate_left
        · (intro w; go_simp; try with_reducible rfl)
        try simp only [Act.put, List.setIfInBounds_toArray, List.set_cons_zero, List.set_cons_succ]
        refine move_b [9, 11, 15] [9, 11, 15] (i := 8) (v := ?_) rfl (by kernel_rfl) (by kernel_rfl) (by kernel_rfl) (fun _ _ _ h => h) (by kernel_rfl) (by kernel_rfl) (by kernel_rfl) (by rfl) ?_ hSw ?_
        rotate_left
        · (intro w hSw; (try dsimp only at hSw); go_simp; try with_reducible rfl)
        try simp only [Act.put, List.setIfInBounds_toArray, List.set_cons_zero, List.set_cons_succ]
        refine move_a (i := 10) (v := ?_) rfl (by kernel_rfl) (by kernel_rfl) (by kernel_rfl) (fun _ _ _ h => h) (by rfl) ?_ ?_
        rotate_left
        · (intro w; go_simp; try with_reducible rfl)
        try simp only [Act.put, List.setIfInBounds_toArray, List.set_cons_zero, List.set_cons_succ]
        refine move_a (i := 12) (v := ?_) rfl (by kernel_rfl) (by kernel_rfl) (by kernel_rfl) (fun _ _ _ h => h) (by rfl) ?_ ?_
        rotate_left
        · (intro w; go_simp; try with_reducible rfl)
        try simp only [Act.put, List.setIfInBounds_toArray, List.set_cons_zero, List.set_cons_succ]
        refine move_a (i := 13) (v := ?_) rfl (by kernel_rfl) (by kernel_rfl) (by kernel_rfl) (fun _ _ _ h => h) (by rfl) ?_ ?_
        rotate_left
        · (intro w; go_simp; try with_reducible rfl)
        try simp only [Act.put, List.setIfInBounds_toArray, List.set_cons_zero, List.set_cons_succ]
        refine move_e (i := 2) (by kernel_rfl) rfl (fun K hK => ?_)
        go_simp
        refine hK _ _ (fun hS => pw_cell_below (below_alloc (Below.refl _ _) _) hS) ?_
        clear hK K
        try simp only [Act.put, List.setIfInBounds_toArray, List.set_cons_zero, List.set_cons_succ]
        refine move_c (i := 9) (by kernel_rfl) rfl (by rfl) (fun K hK => ?_)
        (refine stepApp (w0 := w.drew) (base := w.drew.heap.size) rfl (.tmp 20) (.tmp 26) rfl rfl rfl (OwB.lit0 w.drew _ (Nat.le_refl _)) (RW.out.below ((Below.refl w.heap.size w).alloc (Nat.le_refl _) _).drew) (RB.out.alloc (Nat.le_refl _) _) (by simp) (by omega) ?_; intro A1 n1 c1 w1 ho hb; rw [List.nil_append] at ho; have hl1 := ho.len; rw [HLW.out] at hl1; have hl1a : n1 ≤ wn := Nat.le_of_eq hl1.symm; clear hl1; have HO1 := Lib.hid ho; have HB1 := Lib.hid hb; clear ho hb)
        refine hK _ _ ?_
        clear hK K
        try simp only [Act.put, List.setIfInBounds_toArray, List.set_cons_zero, List.set_cons_succ]
        refine move_c (i := 11) (by kernel_rfl) rfl (by rfl) (fun K hK => ?_)
        (refine stepApp (w0 := w.drew) (base := w.drew.heap.size) rfl (.tmp 27) (.tmp 28) rfl rfl rfl HO1.out (HR.out.below (DB.out.trans HB1.out)) HB1.out HB1.out.size (by omega) ?_; intro A2 n2 c2 w2 ho hb; have HO2 := Lib.hid ho; have HB2 : Hid (Below w.heap.size w w2) := Lib.hid (DB.out.trans hb); have HC := Lib.hid (H.out.below HB2.out).cells; have y1 : w2.cell? ⟨p, 3, none⟩ = some (.slice wA wn wc) := pw_cell_below HB2.out e1; have z1 := (H.out.below HB2.out).free 3; clear ho hb)
        refine hK _ _ ?_
        clear hK K
        try simp only [Act.put, List.setIfInBounds_toArray, List.set_cons_zero, List.set_cons_succ]
        refine move_a (i := 14) (v := ?_) rfl (by kernel_rfl) (by kernel_rfl) (by kernel_rfl) (fun _ _ _ h => h) (by rfl) ?_ ?_
        rotate_left
        · (intro w; go_simp; try with_reducible rfl)
        try simp only [Act.put, List.setIfInBounds_toArray, List.set_cons_zero, List.set_cons_succ]
        refine move_c (i := 15) (by kernel_rfl) rfl (by rfl) (fun K hK => ?_)
        go_simp
        refine hK _ _ ?_
        clear hK K
        try simp only [Act.put, List.setIfInBounds_toArray, List.set_cons_zero, List.set_cons_succ]
        refine move_d (by kernel_rfl) ?_
        have HF := Lib.hid (H.out.slotN HB2.out (i := 3) (x := ⟨A2, n2, c2⟩) (by omega) (OwF.of HO2.out))
        have HF1 : Hid (RAt (w2.setCell ⟨p, 3, none⟩ (.slice A2 n2 c2)) base p (upd cs 3 ⟨A2, n2, c2⟩) (putB d 3 (d.b 3 ++ ys))) := Lib.hid HF.out.1
        have HF2 : Hid (DStep w base p cs (w2.setCell ⟨p, 3, none⟩ (.slice A2 n2 c2)) (upd cs 3 ⟨A2, n2, c2⟩)) := Lib.hid HF.out.2
        have HRaw := Lib.hid (rraw_any HF1.out HD.out.n HD.out.a)
        have HAP : Hid (appD d 1 ys = gone (putB d 3 (d.b 3 ++ ys))) := Lib.hid rfl
        have hrp := rawD_put d 3 (d.b 3 ++ ys)
        rw [hrp] at HRaw
        have HG : Hid (gone (putB d 3 (d.b 3 ++ ys)) = if (rawD d).2 then offD (rawD (putB d 3 (d.b 3 ++ ys))).1 d.k else (rawD (putB d 3 (d.b 3 ++ ys))).1) := Lib.hid (by unfold gone; rw [hrp]; rfl)
        have hko := rawD_off (putB d 3 (d.b 3 ++ ys))
        have hsm : Small (rawD (putB d 3 (d.b 3 ++ ys))).1.b := by
          rw [hko.2.1]
          intro j hj
          show (upd d.b 3 (d.b 3 ++ ys) j).length ≤ _
          by_cases hji : j = 3
          · subst hji; rw [upd_same, List.length_append, hml]; exact HSZ.out _ hj
          · rw [upd_ne _ _ hji]; exact HD.out.b j hj
        have hkk : (rawD (putB d 3 (d.b 3 ++ ys))).1.k = d.k := hko.2.2
        have HKK := Lib.hid hkk
        have HSM := Lib.hid hsm
        clear hrp hko hsm hkk HF y1 z1 e1 e4 HC HSZ
        generalize (rawD d).2 = gg at HRaw HG HA
        generalize (rawD (putB d 3 (d.b 3 ++ ys))).1 = d2 at HRaw HG HKK HSM
        go_wp2_with fail
        refine HRaw.out.mono ?_
        rintro e w3 ⟨rfl, h3, s3⟩
        have S3 := Lib.hid (HF2.out.trans s3)
        have H3 := Lib.hid h3
        cases gg
        · go_wp2
          go_ret
          refine ⟨by rw [HA.out]; rfl, _, ?_, S3.out⟩
          rw [HA.out]
          show RAt _ _ _ _ (appD d 1 ys)
          rw [HAP.out, HG.out]
          exact H3.out
        · have e7 := h3.cells.2.2.2.2.2.2.2
          rw [HKK.out] at e7
          have HO := Lib.hid (roff_any h3 HSM.out d.k)
          clear h3 s3
          go_wp2_with fail
          refine HO.out.mono ?_
          rintro e w4 hret
          have HRt := Lib.hid (RetF.from S3.out hret)
          clear hret
          obtain ⟨rfl, cs4, h4, s4⟩ := HRt.out
          go_wp2
          go_ret
          refine ⟨by rw [HA.out]; rfl, cs4, ?_, s4⟩
          rw [HA.out]
          show RAt _ _ _ _ (appD d 1 ys)
          rw [HAP.out, HG.out]
          exact h4
      · have HA := Lib.hid (HA.out.trans (if_pos (by rw [show rdy d 1 = ans d.off from rdy0 1 (by omega), ho]; decide)))
        rw [show rdy d 1 = 40 from by rw [show rdy d 1 = ans d.off from rdy0 1 (by omega), ho]; rfl] at HA
        rw [ho] at e4
        simp only [Bool.not_true] at e4
        clear h hd hr hsz ho
        go_enter Try.func30, Try.ntmps30
        go_wp2
        go_ret
        exact ⟨by rw [HA.out]; rfl, cs, by rw [HA.out]; exact H.out, DStep.refl _ _ _ _⟩
    · have HA := Lib.hid (HA.out.trans (if_pos (by rw [rdy_bad hf0 hf1]; decide)))
      rw [rdy_bad hf0 hf1] at HA
      have hb0 : (f != 0) = true := by simp [hf0]
      have hb1 : (f != 1) = true := by simp [hf1]
      clear h hd hr hsz hf0 hf1 e4
      go_enter Try.func30, Try.ntmps30
      go_wp2
      go_ret
      exact ⟨by rw [HA.out]; rfl, cs, by rw [HA.out]; exact H.out, DStep.refl _ _ _ _⟩
end Go.Proofs.Ytbmdglbhmianjaa.refw
