/- The document's disk: Truncate. -/
import Derived.Test.YtbmdglbhmianjaaRefSync
import Derived.Test.YtbmdglbhmianjaaDiskSync
set_option linter.unusedVariables false
set_option linter.unusedSimpArgs false
namespace Go.Proofs.Ytbmdglbhmianjaa.refw
open Go.RowKit Go.Proofs.YtbmdglbhmianjaaW.PrintWords Go.Proofs.Ytbmdglbhmianjaa.base Go.Proofs.Ytbmdglbhmianjaa.mem Go.Proofs.Ytbmdglbhmianjaa.keep Go.Proofs.Ytbmdglbhmianjaa.diskp Go.Proofs.Ytbmdglbhmianjaa.diskr Go.Proofs.Ytbmdglbhmianjaa.refr Go.Proofs.Ytbmdglbhmianjaa.ordt Go.Proofs.Ytbmdglbhmianjaa.clone Go.Proofs.Ytbmdglbhmianjaa.diskw

/-- a slot is given memory that came behind w -/
theorem slot_later {w w1 : World} {base p : Nat} {cs cs1 : Nat → Sl} {d : D} (s : DStep w base p cs w1 cs1) (h : RAt w1 base p cs1 d) {i : Nat} (hi : i < 4) {x : Sl} {ys : List Int} (hx : OwF w1 base x ys) (ho : ∀ g, x.own = some g → ¬ Ft p cs1 g ∧ w.heap.size ≤ g) :
    RAt (w1.setCell ⟨p, pos i, none⟩ x.val) base p (upd cs1 i x) (putB d i ys) ∧ DStep w base p cs (w1.setCell ⟨p, pos i, none⟩ x.val) (upd cs1 i x) := by
  refine ⟨h.slotF hi hx (fun g hg => (ho g hg).1), ⟨⟨by simpa [World.setCell] using s.keep.1, fun g hg hl => ?_⟩, fun g hg => ?_, s.bel.setCell (p := ⟨p, pos i, none⟩) h.hp _⟩⟩
  · rw [Below.heap_setCell _ _ _ _ (show g ≠ p from fun e => hg (.inl e))]
    exact s.keep.2 g hg hl
  · rcases hg with e | ⟨j, hj, e⟩
    · exact .inl (.inl e)
    · by_cases hji : j = i
      · subst hji
        rw [upd_same] at e
        exact .inr (ho g e).2
      · rw [upd_ne _ _ hji] at e
        exact s.foot g (.inr ⟨j, hj, e⟩)
theorem own_apartF {w w1 : World} {base p B n c : Nat} {cs cs' : Nat → Sl} {A : Option Addr} {xs : List Int} (h : OwB w B A n c xs) (hB : ∀ g, (Value.slice A n c).ownBlock = some g → ¬ Ft p cs g) (s : DStep w base p cs w1 cs') : OwB w1 B A n c xs := by
  refine ⟨⟨h.1.1, ?_⟩, h.2⟩
  rcases h.1.2 with hv | ⟨g, cap, cur, hv, h1, h2, h3⟩
  · exact .inl hv
  · refine .inr ⟨g, cap, cur, hv, h1, ?_, h3⟩
    rw [s.keep.2 g (hB g (by rw [hv]; rfl)) (Array.getElem?_eq_some_iff.1 h2).1]
    exact h2
theorem cut_short {d : D} (f N : Nat) (hf : f < 2) (h : N ≤ (d.b (2 * f)).length) : cutB d f N = putB (putB d (2 * f) ((d.b (2 * f) ++ d.b (2 * f + 1)).take N)) (2 * f + 1) [] := by
  unfold cutB putB
  have e1 : N - (d.b (2 * f)).length = 0 := by omega
  rw [e1, List.take_append_of_le_length h]
  simp only [D.mk.injEq, and_true]
  funext q
  unfold upd
  by_cases h1 : q = 2 * f
  · rw [if_pos h1, if_neg (by omega), if_pos h1]
  · rw [if_neg h1]
    by_cases h2 : q = 2 * f + 1
    · rw [if_pos h2, if_pos h2]; simp
    · rw [if_neg h2, if_neg h2, if_neg h1]
theorem cut_long {d : D} (f N : Nat) (h : (d.b (2 * f)).length ≤ N) : cutB d f N = putB d (2 * f + 1) (((d.b (2 * f) ++ d.b (2 * f + 1)).take N).drop (d.b (2 * f)).length) := by
  unfold cutB putB
  have e1 : (d.b (2 * f)).take N = d.b (2 * f) := List.take_of_length_le h
  have e2 : ((d.b (2 * f) ++ d.b (2 * f + 1)).take N).drop (d.b (2 * f)).length = (d.b (2 * f + 1)).take (N - (d.b (2 * f)).length) := by
    rw [List.take_append, List.drop_append]
    rw [e1]
    simp
  rw [e1, e2]
  simp only [D.mk.injEq, and_true]
  funext q
  unfold upd
  by_cases h1 : q = 2 * f
  · rw [if_pos h1, if_neg (by omega), h1]
  · rw [if_neg h1]
set_option maxHeartbeats 8000000 in
theorem rtrunc_any {w : World} {base p : Nat} {cs : Nat → Sl} {d : D} (h : RAt w base p cs d) (hd : Fit d) (f n : Int) (hn : -9223372036854775808 ≤ n ∧ n ≤ 9223372036854775807) :
    Calls Try.prog 32 #[.pointer (some ⟨p, 0, none⟩), .int .i64 f, .int .i64 n] w (RetF w base p cs (.int .i64 (cutR d f n).2) (cutR d f n).1) := by
  have H := Lib.hid h
  have HA : Hid (cutR d f n = if rdy d f = 1 then (d, 1) else if n < 0 ∨ ((fileB d f.toNat).length : Int) < n then (d, 1) else if rdy d f ≠ 0 then (d, rdy d f) else (cutD d f.toNat n.toNat, ans (rawD d).2)) := Lib.hid rfl
  by_cases hf0 : f = 0
  · subst hf0
    have HA := Lib.hid (HA.out.trans (if_neg (by rw [show rdy d 0 = ans d.off from rdy0 0 (by omega)]; unfold ans; split <;> decide)))
    have CAL := Lib.hid (rall_any h hd.b 0 (by omega))
    have hfl : (fileB d 0).length = (d.b 0).length + (d.b 1).length := by unfold fileB; rw [List.length_append]
    have hb0 := hd.b 0 (by omega)
    have hb1 := hd.b 1 (by omega)
    have HD := Lib.hid hd
    have HFT : Hid (∀ g, Ft p cs g → g < w.heap.size) := Lib.hid fun g hg => (h.ft hg).2
    have hbase := h.base_le
    clear h hd
    go_enter Try.func32, Try.ntmps32
    go_wp2_with fail
    refine CAL.out.mono ?_
    rintro e w1 ⟨A1, n1, c1, rfl, ho, hb⟩
    have HAL := Lib.hid ho
    have HB1 := Lib.hid hb
    have H1 := Lib.hid (H.out.below hb)
    have hl1 := ho.len
    have hc1 := ho.cap
    have HFL : Hid (fileB d 0 = d.b 0 ++ d.b 1) := Lib.hid rfl
    have HFN := Lib.hid (show ((fileB d (Int.toNat 0)).length : Int) = (n1 : Int) from by rw [← hl1]; rfl)
    rw [HFN.out] at HA
    rw [hl1] at hfl
    have hfa : n1 ≤ (d.b 0).length + (d.b 1).length := Nat.le_of_eq hfl
    have hfb : (d.b 0).length + (d.b 1).length ≤ n1 := Nat.le_of_eq hfl.symm
    clear hfl
    have e4 := H1.out.cells.2.2.2.2.1
    clear ho hb hl1
    by_cases hbad : n < 0 ∨ (n1 : Int) < n
    · have HA := Lib.hid (HA.out.trans (if_pos hbad))
      have HRt : Hid (RetF w base p cs (.int .i64 (cutR d 0 n).2) (cutR d 0 n).1 (.returned (.int .i64 1)) w1) := Lib.hid ⟨by rw [HA.out], cs, by rw [HA.out]; exact H1.out, DStep.below HB1.out hbase⟩
      rcases hbad with hb | hb
      · go_wp2
        go_ret
        exact HRt.out
      · have hb0 : ¬ n < 0 := by omega
        go_wp2
        go_ret
        exact HRt.out
    · have hn0 : ¬ n < 0 := fun e => hbad (.inl e)
      have hn1 : ¬ (n1 : Int) < n := fun e => hbad (.inr e)
      have HA := Lib.hid (HA.out.trans (if_neg hbad))
      clear hbad
      cases ho : d.off
      · have HA := Lib.hid (HA.out.trans (if_neg (by rw [show rdy d 0 = ans d.off from rdy0 0 (by omega), ho]; decide)))
        rw [ho] at e4
        simp only [Bool.not_false] at e4
        have HRaw := Lib.hid (rraw_any H1.out HD.out.n HD.out.a)
        have HKK := Lib.hid (rawD_off d).2.2
        have HBB := Lib.hid (rawD_off d).2.1
        have HSM := Lib.hid HD.out.raw
        have HS : Hid (cutD d 0 n.toNat = if (rawD d).2 then gone d else cutB (gone d) 0 n.toNat) := Lib.hid rfl
        have HG : Hid (gone d = if (rawD d).2 then offD (rawD d).1 d.k else (rawD d).1) := Lib.hid rfl
        clear ho
        generalize (rawD d).2 = gg at HRaw HG HA HS
        generalize (rawD d).1 = d2 at HRaw HG HKK HSM HBB
        go_wp2_with fail
        refine HRaw.out.mono ?_
        rintro e w3 ⟨rfl, h3, s3⟩
        have S3 := Lib.hid ((DStep.below HB1.out hbase).trans s3)
        have hAn : ∀ g, (Value.slice A1 n1 c1).ownBlock = some g → ¬ Ft p cs g ∧ w.heap.size ≤ g := fun g hg => by
          have h1 := (OwB.blk HAL.out g hg).1
          exact ⟨fun e => by have := HFT.out g e; omega, h1⟩
        have HAN := Lib.hid hAn
        have HAL3 := Lib.hid (own_apartF HAL.out (fun g hg => (hAn g hg).1) s3)
        clear hAn
        cases gg
        · have H3 := Lib.hid h3
          have e0 := h3.cells.1
          have e1 := h3.cells.2.1
          have f0 := h3.free 0
          have f1 := h3.free 2
          have hsn : (cs 0).n = (d.b 0).length := by rw [← (h3.row 0 (by omega)).len, HBB.out]
          have RB := Lib.hid (Below.refl w3.drew.heap.size w3.drew)
          clear h3 s3 e4
          obtain ⟨N, rfl⟩ := Int.eq_ofNat_of_zero_le (show 0 ≤ n by omega)
          have HTN := Lib.hid (show (N : Int).toNat = N by omega)
          rw [HTN.out] at HS HA
          have hN1 : N ≤ n1 := by omega
          have hNc : N ≤ c1 := by omega
          have hNci : (N : Int) ≤ (c1 : Int) := by omega
          obtain ⟨sn, hsn2⟩ : ∃ x, (cs 0).n = x := ⟨_, rfl⟩
          rw [hsn2] at e0 hsn
          have HSN : Hid (sn = (d2.b (2 * 0)).length) := Lib.hid (by rw [hsn, HBB.out])
          have HFB : Hid (fileB d 0 = d2.b (2 * 0) ++ d2.b (2 * 0 + 1)) := Lib.hid (by rw [HBB.out]; rfl)
          clear hsn2
          have hsle : sn ≤ n1 := by omega
          have hslc : sn ≤ 17592186044416 := by omega
          clear hsn
          by_cases hle : N ≤ sn
          · have hlei : (N : Int) ≤ (sn : Int) := by omega
            have HCB := Lib.hid (cut_short (d := d2) 0 N (by omega) (by rw [← HSN.out]; exact hle))
            have HX := Lib.hid (slot_later (S3.out.trans (DStep.below (Below.refl _ _).drew H3.out.base_le)) H3.out.drewd (i := 0) (x := ⟨A1, N, N⟩) (ys := (fileB d 0).take N) (by omega) ⟨c1, (OwB.first HAL3.out N hN1).below (Below.refl _ _).drew |>.less hbase, .inr rfl⟩ (fun g hg => HAN.out g (own_same hg)))
            have HX1 : Hid (RAt ((w3.setCell ⟨p, 0, none⟩ (.slice A1 N N)).drew) base p (upd cs 0 ⟨A1, N, N⟩) (putB d2 0 ((fileB d 0).take N))) := Lib.hid HX.out.1
            have HX2 : Hid (DStep w base p cs ((w3.setCell ⟨p, 0, none⟩ (.slice A1 N N)).drew) (upd cs 0 ⟨A1, N, N⟩)) := Lib.hid HX.out.2
            have e0d : w3.drew.cell? ⟨p, 0, none⟩ = some (.slice (cs 0).A sn (cs 0).c) := e0
            have f0d : w3.drew.frozen? ⟨p, 0, none⟩ = false := f0
            clear HX e1 f1
            go_wp2_with fail
            refine begin_ (fun _ : World => True) [9] (by kernel_rfl) ?_
            have hSw : True := trivial
            simp only [List.size_toArray, List.length_cons, List.length_nil, Nat.reduceAdd, Array.replicate_succ, Array.replicate_zero, List.push_toArray, List.append_toArray, List.nil_append, List.cons_append]
            refine move_a (i := 0) (v := ?_) rfl (by kernel_rfl) (by kernel_rfl) (by kernel_rfl) (fun _ _ _ h => h) (by rfl) ?_ ?_
            rotate_left
            · (intro w; go_simp; try with_reducible rfl)
            try simp only [Act.put, List.setIfInBounds_toArray, List.set_cons_zero, List.set_cons_succ]
            refine move_a (i := 1) (v := ?_) rfl (by kernel_rfl) (by kernel_rfl) (by kernel_rfl) (fun _ _ _ h => h) (by rfl) ?_ ?_
            rotate_left
            · (intro w; go_simp; try with_reducible rfl)
            try simp only [Act.put, List.setIfInBounds_toArray, List.set_cons_zero, List.set_cons_succ]
            refine move_a (i := 2) (v := ?_) rfl (by kernel_rfl) (by kernel_rfl) (by kernel_rfl) (fun _ _ _ h => h) (by rfl) ?_ ?_
            rotate_left
            · (intro w; go_simp; try with_reducible rfl)
            try simp only [Act.put, List.setIfInBounds_toArray, List.set_cons_zero, List.set_cons_succ]
            refine move_a (i := 3) (v := ?_) rfl (by kernel_rfl) (by kernel_rfl) (by kernel_rfl) (fun _ _ _ h => h) (by rfl) ?_ ?_
            rotate_left
            · (intro w; go_simp; try with_reducible rfl)
            try simp only [Act.put, List.setIfInBounds_toArray, List.set_cons_zero, List.set_cons_succ]
            refine move_a (i := 4) (v := ?_) rfl (by kernel_rfl) (by kernel_rfl) (by kernel_rfl) (fun _ _ _ h => h) (by rfl) ?_ ?_
            rotate_left
            · (intro w; go_simp; try with_reducible rfl)
            try simp only [Act.put, List.setIfInBounds_toArray, List.set_cons_zero, List.set_cons_succ]
            refine move_a (i := 5) (v := ?_) rfl (by kernel_rfl) (by kernel_rfl) (by kernel_rfl) (fun _ _ _ h => h) (by rfl) ?_ ?_
            rotate_left
            · (intro w; go_simp; try with_reducible rfl)
            try simp only [Act.put, List.setIfInBounds_toArray, List.set_cons_zero, List.set_cons_succ]
            refine move_a (i := 6) (v := ?_) rfl (by kernel_rfl) (by kernel_rfl) (by kernel_rfl) (fun _ _ _ h => h) (by rfl) ?_ ?_
            rotate_left
            · (intro w; go_simp; try with_reducible rfl)
            try simp only [Act.put, List.setIfInBounds_toArray, List.set_cons_zero, List.set_cons_succ]
            refine move_a (i := 7) (v := ?_) rfl (by kernel_rfl) (by kernel_rfl) (by kernel_rfl) (fun _ _ _ h => h) (by rfl) ?_ ?_
            rotate_left
            · (intro w; go_simp; try with_reducible rfl)
            try simp only [Act.put, List.setIfInBounds_toArray, List.set_cons_zero, List.set_cons_succ]
            refine move_a (i := 8) (v := ?_) rfl (by kernel_rfl) (by kernel_rfl) (by kernel_rfl) (fun _ _ _ h => h) (by rfl) ?_ ?_
            rotate_left
            · (intro w; go_simp; try with_reducible rfl)
            try simp only [Act.put, List.setIfInBounds_toArray, List.set_cons_zero, List.set_cons_succ]
            refine move_c (i := 9) (by kernel_rfl) rfl (by rfl) (fun K hK => ?_)
            go_simp
            refine hK _ _ ?_
            clear hK K
            try simp only [Act.put, List.setIfInBounds_toArray, List.set_cons_zero, List.set_cons_succ]
            refine move_d (by kernel_rfl) ?_
            clear e0 e0d f0 f0d
            generalize (w3.setCell ⟨p, 0, none⟩ (.slice A1 N N)).drew = w4 at HX1 HX2 ⊢
            have c4 := HX1.out.cells.2.1
            have f4 := HX1.out.free 2
            have HY := Lib.hid (HX1.out.slot (w1 := w4) (i := 1) (x := nilS) (ys := []) (by omega) (grownBy_self _ _) (OwF.of (OwB.nil _ _)) (fun g e => by cases e))
            have HY1 : Hid (RAt (w4.setCell ⟨p, 2, none⟩ (.slice none 0 0)) base p (upd (upd cs 0 ⟨A1, N, N⟩) 1 nilS) (cutB d2 0 N)) := Lib.hid (by rw [HCB.out, ← HFB.out]; exact HY.out.1)
            have HY2 : Hid (DStep w4 base p (upd cs 0 ⟨A1, N, N⟩) (w4.setCell ⟨p, 2, none⟩ (.slice none 0 0)) (upd (upd cs 0 ⟨A1, N, N⟩) 1 nilS)) := Lib.hid HY.out.2
            clear HY
            go_wp2
            go_ret
            refine ⟨by rw [HA.out]; rfl, _, ?_, HX2.out.trans HY2.out⟩
            rw [HA.out]
            show RAt _ _ _ _ (cutD d 0 N)
            rw [HS.out, HG.out]
            exact HY1.out
          · have hlei : ¬ (N : Int) ≤ (sn : Int) := by omega
            have hsN : sn ≤ N := by omega
            have HCB := Lib.hid (cut_long (d := d2) 0 N (by rw [← HSN.out]; exact hsN))
            obtain ⟨A5, n5, c5, hcut, hq1, hq2, hq3, hcr⟩ := cutLH A1 n1 c1 sn N hsN hN1 hc1
            have HCR := Lib.hid (hcr w3 _ HAL3.out.rd)
            clear hcr f0
            go_wp2_with fail
            refine begin_ (fun _ : World => True) [7, 11] (by kernel_rfl) ?_
            have hSw : True := trivial
            simp only [List.size_toArray, List.length_cons, List.length_nil, Nat.reduceAdd, Array.replicate_succ, Array.replicate_zero, List.push_toArray, List.append_toArray, List.nil_append, List.cons_append]
            refine move_a (i := 0) (v := ?_) rfl (by kernel_rfl) (by kernel_rfl) (by kernel_rfl) (fun _ _ _ h => h) (by rfl) ?_ ?_
            rotate_left
            · (intro w; go_simp; try with_reducible rfl)
            try simp only [Act.put, List.setIfInBounds_toArray, List.set_cons_zero, List.set_cons_succ]
            refine move_a (i := 1) (v := ?_) rfl (by kernel_rfl) (by kernel_rfl) (by kernel_rfl) (fun _ _ _ h => h) (by rfl) ?_ ?_
            rotate_left
            · (intro w; go_simp; try with_reducible rfl)
            try simp only [Act.put, List.setIfInBounds_toArray, List.set_cons_zero, List.set_cons_succ]
            refine move_a (i := 3) (v := ?_) rfl (by kernel_rfl) (by kernel_rfl) (by kernel_rfl) (fun _ _ _ h => h) (by rfl) ?_ ?_
            rotate_left
            · (intro w; go_simp; try with_reducible rfl)
            try simp only [Act.put, List.setIfInBounds_toArray, List.set_cons_zero, List.set_cons_succ]
            refine move_a (i := 4) (v := ?_) rfl (by kernel_rfl) (by kernel_rfl) (by kernel_rfl) (fun _ _ _ h => h) (by rfl) ?_ ?_
            rotate_left
            · (intro w; go_simp; try with_reducible rfl)
            try simp only [Act.put, List.setIfInBounds_toArray, List.set_cons_zero, List.set_cons_succ]
            refine move_a (i := 5) (v := ?_) rfl (by kernel_rfl) (by kernel_rfl) (by kernel_rfl) (fun _ _ _ h => h) (by rfl) ?_ ?_
            rotate_left
            · (intro w; go_simp; try with_reducible rfl)
            try simp only [Act.put, List.setIfInBounds_toArray, List.set_cons_zero, List.set_cons_succ]
            refine move_a (i := 6) (v := ?_) rfl (by kernel_rfl) (by kernel_rfl) (by kernel_rfl) (fun _ _ _ h => h) (by rfl) ?_ ?_
            rotate_left
            · (intro w; go_simp; try with_reducible rfl)
            try simp only [Act.put, List.setIfInBounds_toArray, List.set_cons_zero, List.set_cons_succ]
            refine move_a (i := 8) (v := ?_) rfl (by kernel_rfl) (by kernel_rfl) (by kernel_rfl) (fun _ _ _ h => h) (by rfl) ?_ ?_
            rotate_left
            · (intro w; go_simp; try with_reducible rfl)
            try simp only [Act.put, List.setIfInBounds_toArray, List.set_cons_zero, List.set_cons_succ]
            refine move_a (i := 9) (v := ?_) rfl (by kernel_rfl) (by kernel_rfl) (by kernel_rfl) (fun _ _ _ h => h) (by rfl) ?_ ?_
            rotate_left
            · (intro w; go_simp; try with_reducible rfl)
            try simp only [Act.put, List.setIfInBounds_toArray, List.set_cons_zero, List.set_cons_succ]
            refine move_e (i := 2) (by kernel_rfl) rfl (fun K hK => ?_)
            go_simp
            refine hK _ _ (fun hS => trivial) ?_
            clear hK K
            try simp only [Act.put, List.setIfInBounds_toArray, List.set_cons_zero, List.set_cons_succ]
            refine move_c (i := 7) (by kernel_rfl) rfl (by rfl) (fun K hK => ?_)
            (refine stepApp (w0 := w3.drew) (base := w3.drew.heap.size) rfl (.tmp 65) (.tmp 69) rfl rfl rfl (OwB.lit0 w3.drew _ (Nat.le_refl _)) (HCR.out.below ((Below.refl w3.heap.size w3).alloc (Nat.le_refl _) _).drew) (RB.out.alloc (Nat.le_refl _) _) (by simp) (by omega) ?_; intro A2 n2 c2 w2 ho hb; rw [List.nil_append] at ho; have HO2 := Lib.hid ho; have HB2 : Hid (Below w3.heap.size w3 w2) := Lib.hid ((Below.refl w3.heap.size w3).drew.trans hb); have y1 := (H3.out.below HB2.out).cells.2.1; have z1 := (H3.out.below HB2.out).free 2; clear ho hb)
            refine hK _ _ ?_
            clear hK K
            try simp only [Act.put, List.setIfInBounds_toArray, List.set_cons_zero, List.set_cons_succ]
            refine move_a (i := 10) (v := ?_) rfl (by kernel_rfl) (by kernel_rfl) (by kernel_rfl) (fun _ _ _ h => h) (by rfl) ?_ ?_
            rotate_left
            · (intro w; go_simp; try with_reducible rfl)
            try simp only [Act.put, List.setIfInBounds_toArray, List.set_cons_zero, List.set_cons_succ]
            refine move_c (i := 11) (by kernel_rfl) rfl (by rfl) (fun K hK => ?_)
            go_simp
            refine hK _ _ ?_
            clear hK K
            try simp only [Act.put, List.setIfInBounds_toArray, List.set_cons_zero, List.set_cons_succ]
            refine move_d (by kernel_rfl) ?_
            have HF := Lib.hid (H3.out.slotN HB2.out (i := 1) (x := ⟨A2, n2, c2⟩) (by omega) (OwF.of HO2.out))
            have HF1 : Hid (RAt (w2.setCell ⟨p, 2, none⟩ (.slice A2 n2 c2)) base p (upd cs 1 ⟨A2, n2, c2⟩) (cutB d2 0 N)) := Lib.hid (by rw [HCB.out, ← HFB.out, ← HSN.out]; exact HF.out.1)
            have HF2 : Hid (DStep w3 base p cs (w2.setCell ⟨p, 2, none⟩ (.slice A2 n2 c2)) (upd cs 1 ⟨A2, n2, c2⟩)) := Lib.hid HF.out.2
            clear HF y1 z1
            go_wp2
            go_ret
            refine ⟨by rw [HA.out]; rfl, _, ?_, S3.out.trans HF2.out⟩
            rw [HA.out]
            show RAt _ _ _ _ (cutD d 0 N)
            rw [HS.out, HG.out]
            exact HF1.out
        · have e7 := h3.cells.2.2.2.2.2.2.2
          rw [HKK.out] at e7
          have HO := Lib.hid (roff_any h3 HSM.out d.k)
          clear h3 s3
          go_wp2_with fail
          refine HO.out.mono ?_
          rintro e w4 hret
          have HRt := Lib.hid (RetF.from S3.out hret)
          clear hret
          obtain ⟨rfl, cs4, h4, s4⟩ := HRt.out
          go_wp2
          go_ret
          refine ⟨by rw [HA.out]; rfl, cs4, ?_, s4⟩
          rw [HA.out]
          show RAt _ _ _ _ (cutD d 0 n.toNat)
          rw [HS.out, HG.out]
          exact h4
      · have HA := Lib.hid (HA.out.trans (if_pos (by rw [show rdy d 0 = ans d.off from rdy0 0 (by omega), ho]; decide)))
        rw [show rdy d 0 = 40 from by rw [show rdy d 0 = ans d.off from rdy0 0 (by omega), ho]; rfl] at HA
        rw [ho] at e4
        simp only [Bool.not_true] at e4
        clear ho
        go_wp2
        go_ret
        exact ⟨by rw [HA.out]; rfl, cs, by rw [HA.out]; exact H1.out, DStep.below HB1.out hbase⟩
  · by_cases hf1 : f = 1
    · subst hf1
      have HA := Lib.hid (HA.out.trans (if_neg (by rw [show rdy d 1 = ans d.off from rdy0 1 (by omega)]; unfold ans; split <;> decide)))
      have CAL := Lib.hid (rall_any h hd.b 1 (by omega))
      have hfl : (fileB d 1).length = (d.b 2).length + (d.b 3).length := by unfold fileB; rw [List.length_append]
      have hb0 := hd.b 2 (by omega)
      have hb1 := hd.b 3 (by omega)
      have HD := Lib.hid hd
      have HFT : Hid (∀ g, Ft p cs g → g < w.heap.size) := Lib.hid fun g hg => (h.ft hg).2
      have hbase := h.base_le
      clear h hd
      go_enter Try.func32, Try.ntmps32
      go_wp2_with fail
      refine CAL.out.mono ?_
      rintro e w1 ⟨A1, n1, c1, rfl, ho, hb⟩
      have HAL := Lib.hid ho
      have HB1 := Lib.hid hb
      have H1 := Lib.hid (H.out.below hb)
      have hl1 := ho.len
      have hc1 := ho.cap
      have HFL : Hid (fileB d 1 = d.b 2 ++ d.b 3) := Lib.hid rfl
      have HFN := Lib.hid (show ((fileB d (Int.toNat 1)).length : Int) = (n1 : Int) from by rw [← hl1]; rfl)
      rw [HFN.out] at HA
      rw [hl1] at hfl
      have hfa : n1 ≤ (d.b 2).length + (d.b 3).length := Nat.le_of_eq hfl
      have hfb : (d.b 2).length + (d.b 3).length ≤ n1 := Nat.le_of_eq hfl.symm
      clear hfl
      have e4 := H1.out.cells.2.2.2.2.1
      clear ho hb hl1
      by_cases hbad : n < 0 ∨ (n1 : Int) < n
      · have HA := Lib.hid (HA.out.trans (if_pos hbad))
        have HRt : Hid (RetF w base p cs (.int .i64 (cutR d 1 n).2) (cutR d 1 n).1 (.returned (.int .i64 1)) w1) := Lib.hid ⟨by rw [HA.out], cs, by rw [HA.out]; exact H1.out, DStep.below HB1.out hbase⟩
        rcases hbad with hb | hb
        · go_wp2
          go_ret
          exact HRt.out
        · have hb0 : ¬ n < 0 := by omega
          go_wp2
          go_ret
          exact HRt.out
      · have hn0 : ¬ n < 0 := fun e => hbad (.inl e)
        have hn1 : ¬ (n1 : Int) < n := fun e => hbad (.inr e)
        have HA := Lib.hid (HA.out.trans (if_neg hbad))
        clear hbad
        cases ho : d.off
        · have HA := Lib.hid (HA.out.trans (if_neg (by rw [show rdy d 1 = ans d.off from rdy0 1 (by omega), ho]; decide)))
          rw [ho] at e4
          simp only [Bool.not_false] at e4
          have HRaw := Lib.hid (rraw_any H1.out HD.out.n HD.out.a)
          have HKK := Lib.hid (rawD_off d).2.2
          have HBB := Lib.hid (rawD_off d).2.1
          have HSM := Lib.hid HD.out.raw
          have HS : Hid (cutD d 1 n.toNat = if (rawD d).2 then gone d else cutB (gone d) 1 n.toNat) := Lib.hid rfl
          have HG : Hid (gone d = if (rawD d).2 then offD (rawD d).1 d.k else (rawD d).1) := Lib.hid rfl
          clear ho
          generalize (rawD d).2 = gg at HRaw HG HA HS
          generalize (rawD d).1 = d2 at HRaw HG HKK HSM HBB
          go_wp2_with fail
          refine HRaw.out.mono ?_
          rintro e w3 ⟨rfl, h3, s3⟩
          have S3 := Lib.hid ((DStep.below HB1.out hbase).trans s3)
          have hAn : ∀ g, (Value.slice A1 n1 c1).ownBlock = some g → ¬ Ft p cs g ∧ w.heap.size ≤ g := fun g hg => by
            have h1 := (OwB.blk HAL.out g hg).1
            exact ⟨fun e => by have := HFT.out g e; omega, h1⟩
          have HAN := Lib.hid hAn
          have HAL3 := Lib.hid (own_apartF HAL.out (fun g hg => (hAn g hg).1) s3)
          clear hAn
          cases gg
          · have H3 := Lib.hid h3
            have e0 := h3.cells.2.2.1
            have e1 := h3.cells.2.2.2.1
            have f0 := h3.free 1
            have f1 := h3.free 3
            have hsn : (cs 2).n = (d.b 2).length := by rw [← (h3.row 2 (by omega)).len, HBB.out]
            have RB := Lib.hid (Below.refl w3.drew.heap.size w3.drew)
            clear h3 s3 e4
            obtain ⟨N, rfl⟩ := Int.eq_ofNat_of_zero_le (show 0 ≤ n by omega)
            have HTN := Lib.hid (show (N : Int).toNat = N by omega)
            rw [HTN.out] at HS HA
            have hN1 : N ≤ n1 := by omega
            have hNc : N ≤ c1 := by omega
            have hNci : (N : Int) ≤ (c1 : Int) := by omega
            obtain ⟨sn, hsn2⟩ : ∃ x, (cs 2).n = x := ⟨_, rfl⟩
            rw [hsn2] at e0 hsn
            have HSN : Hid (sn = (d2.b (2 * 1)).length) := Lib.hid (by rw [hsn, HBB.out])
            have HFB : Hid (fileB d 1 = d2.b (2 * 1) ++ d2.b (2 * 1 + 1)) := Lib.hid (by rw [HBB.out]; rfl)
            clear hsn2
            have hsle : sn ≤ n1 := by omega
            have hslc : sn ≤ 17592186044416 := by omega
            clear hsn
            by_cases hle : N ≤ sn
            · have hlei : (N : Int) ≤ (sn : Int) := by omega
              have HCB := Lib.hid (cut_short (d := d2) 1 N (by omega) (by rw [← HSN.out]; exact hle))
              have HX := Lib.hid (slot_later (S3.out.trans (DStep.below (Below.refl _ _).drew H3.out.base_le)) H3.out.drewd (i := 2) (x := ⟨A1, N, N⟩) (ys := (fileB d 1).take N) (by omega) ⟨c1, (OwB.first HAL3.out N hN1).below (Below.refl _ _).drew |>.less hbase, .inr rfl⟩ (fun g hg => HAN.out g (own_same hg)))
              have HX1 : Hid (RAt ((w3.setCell ⟨p, 1, none⟩ (.slice A1 N N)).drew) base p (upd cs 2 ⟨A1, N, N⟩) (putB d2 2 ((fileB d 1).take N))) := Lib.hid HX.out.1
              have HX2 : Hid (DStep w base p cs ((w3.setCell ⟨p, 1, none⟩ (.slice A1 N N)).drew) (upd cs 2 ⟨A1, N, N⟩)) := Lib.hid HX.out.2
              have e0d : w3.drew.cell? ⟨p, 1, none⟩ = some (.slice (cs 2).A sn (cs 2).c) := e0
              have f0d : w3.drew.frozen? ⟨p, 1, none⟩ = false := f0
              clear HX e1 f1
              go_wp2_with fail
              refine begin_ (fun _ : World => True) [9] (by kernel_rfl) ?_
              have hSw : True := trivial
              simp only [List.size_toArray, List.length_cons, List.length_nil, Nat.reduceAdd, Array.replicate_succ, Array.replicate_zero, List.push_toArray, List.append_toArray, List.nil_append, List.cons_append]
              refine move_a (i := 0) (v := ?_) rfl (by kernel_rfl) (by kernel_rfl) (by kernel_rfl) (fun _ _ _ h => h) (by rfl) ?_ ?_
              rotate_left
              · (intro w; go_simp; try with_reducible rfl)
              try simp only [Act.put, List.setIfInBounds_toArray, List.set_cons_zero, List.set_cons_succ]
              refine move_a (i := 1) (v := ?_) rfl (by kernel_rfl) (by kernel_rfl) (by kernel_rfl) (fun _ _ _ h => h) (by rfl) ?_ ?_
              rotate_left
              · (intro w; go_simp; try with_reducible rfl)
              try simp only [Act.put, List.setIfInBounds_toArray, List.set_cons_zero, List.set_cons_succ]
              refine move_a (i := 2) (v := ?_) rfl (by kernel_rfl) (by kernel_rfl) (by kernel_rfl) (fun _ _ _ h => h) (by rfl) ?_ ?_
              rotate_left
              · (intro w; go_simp; try with_reducible rfl)
              try simp only [Act.put, List.setIfInBounds_toArray, List.set_cons_zero, List.set_cons_succ]
              refine move_a (i := 3) (v := ?_) rfl (by kernel_rfl) (by kernel_rfl) (by kernel_rfl) (fun _ _ _ h => h) (by rfl) ?_ ?_
              rotate_left
              · (intro w; go_simp; try with_reducible rfl)
              try simp only [Act.put, List.setIfInBounds_toArray, List.set_cons_zero, List.set_cons_succ]
              refine move_a (i := 4) (v := ?_) rfl (by kernel_rfl) (by kernel_rfl) (by kernel_rfl) (fun _ _ _ h => h) (by rfl) ?_ ?_
              rotate_left
              · (intro w; go_simp; try with_reducible rfl)
              try simp only [Act.put, List.setIfInBounds_toArray, List.set_cons_zero, List.set_cons_succ]
              refine move_a (i := 5) (v := ?_) rfl (by kernel_rfl) (by kernel_rfl) (by kernel_rfl) (fun _ _ _ h => h) (by rfl) ?_ ?_
              rotate_left
              · (intro w; go_simp; try with_reducible rfl)
              try simp only [Act.put, List.setIfInBounds_toArray, List.set_cons_zero, List.set_cons_succ]
              refine move_a (i := 6) (v := ?_) rfl (by kernel_rfl) (by kernel_rfl) (by kernel_rfl) (fun _ _ _ h => h) (by rfl) ?_ ?_
              rotate_left
              · (intro w; go_simp; try with_reducible rfl)
              try simp only [Act.put, List.setIfInBounds_toArray, List.set_cons_zero, List.set_cons_succ]
              refine move_a (i := 7) (v := ?_) rfl (by kernel_rfl) (by kernel_rfl) (by kernel_rfl) (fun _ _ _ h => h) (by rfl) ?_ ?_
              rotate_left
              · (intro w; go_simp; try with_reducible rfl)
              try simp only [Act.put, List.setIfInBounds_toArray, List.set_cons_zero, List.set_cons_succ]
              refine move_a (i := 8) (v := ?_) rfl (by kernel_rfl) (by kernel_rfl) (by kernel_rfl) (fun _ _ _ h => h) (by rfl) ?_ ?_
              rotate_left
              · (intro w; go_simp; try with_reducible rfl)
              try simp only [Act.put, List.setIfInBounds_toArray, List.set_cons_zero, List.set_cons_succ]
              refine move_c (i := 9) (by kernel_rfl) rfl (by rfl) (fun K hK => ?_)
              go_simp
              refine hK _ _ ?_
              clear hK K
              try simp only [Act.put, List.setIfInBounds_toArray, List.set_cons_zero, List.set_cons_succ]
              refine move_d (by kernel_rfl) ?_
              clear e0 e0d f0 f0d
              generalize (w3.setCell ⟨p, 1, none⟩ (.slice A1 N N)).drew = w4 at HX1 HX2 ⊢
              have c4 := HX1.out.cells.2.2.2.1
              have f4 := HX1.out.free 3
              have HY := Lib.hid (HX1.out.slot (w1 := w4) (i := 3) (x := nilS) (ys := []) (by omega) (grownBy_self _ _) (OwF.of (OwB.nil _ _)) (fun g e => by cases e))
              have HY1 : Hid (RAt (w4.setCell ⟨p, 3, none⟩ (.slice none 0 0)) base p (upd (upd cs 2 ⟨A1, N, N⟩) 3 nilS) (cutB d2 1 N)) := Lib.hid (by rw [HCB.out, ← HFB.out]; exact HY.out.1)
              have HY2 : Hid (DStep w4 base p (upd cs 2 ⟨A1, N, N⟩) (w4.setCell ⟨p, 3, none⟩ (.slice none 0 0)) (upd (upd cs 2 ⟨A1, N, N⟩) 3 nilS)) := Lib.hid HY.out.2
              clear HY
              go_wp2
              go_ret
              refine ⟨by rw [HA.out]; rfl, _, ?_, HX2.out.trans HY2.out⟩
              rw [HA.out]
              show RAt _ _ _ _ (cutD d 1 N)
              rw [HS.out, HG.out]
              exact HY1.out
            · have hlei : ¬ (N : Int) ≤ (sn : Int) := by omega
              have hsN : sn ≤ N := by omega
              have HCB := Lib.hid (cut_long (d := d2) 1 N (by rw [← HSN.out]; exact hsN))
              obtain ⟨A5, n5, c5, hcut, hq1, hq2, hq3, hcr⟩ := cutLH A1 n1 c1 sn N hsN hN1 hc1
              have HCR := Lib.hid (hcr w3 _ HAL3.out.rd)
              clear hcr f0
              go_wp2_with fail
              refine begin_ (fun _ : World => True) [7, 11] (by kernel_rfl) ?_
              have hSw : True := trivial
              simp only [List.size_toArray, List.length_cons, List.length_nil, Nat.reduceAdd, Array.replicate_succ, Array.replicate_zero, List.push_toArray, List.append_toArray, List.nil_append, List.cons_append]
              refine move_a (i := 0) (v := ?_) rfl (by kernel_rfl) (by kernel_rfl) (by kernel_rfl) (fun _ _ _ h => h) (by rfl) ?_ ?_
              rotate_left
              · (intro w; go_simp; try with_reducible rfl)
              try simp only [Act.put, List.setIfInBounds_toArray, List.set_cons_zero, List.set_cons_succ]
              refine move_a (i := 1) (v := ?_) rfl (by kernel_rfl) (by kernel_rfl) (by kernel_rfl) (fun _ _ _ h => h) (by rfl) ?_ ?_
              rotate_left
              · (intro w; go_simp; try with_reducible rfl)
              try simp only [Act.put, List.setIfInBounds_toArray, List.set_cons_zero, List.set_cons_succ]
              refine move_a (i := 3) (v := ?_) rfl (by kernel_rfl) (by kernel_rfl) (by kernel_rfl) (fun _ _ _ h => h) (by rfl) ?_ ?_
              rotate_left
              · (intro w; go_simp; try with_reducible rfl)
              try simp only [Act.put, List.setIfInBounds_toArray, List.set_cons_zero, List.set_cons_succ]
              refine move_a (i := 4) (v := ?_) rfl (by kernel_rfl) (by kernel_rfl) (by kernel_rfl) (fun _ _ _ h => h) (by rfl) ?_ ?_
              rotate_left
              · (intro w; go_simp; try with_reducible rfl)
              try simp only [Act.put, List.setIfInBounds_toArray, List.set_cons_zero, List.set_cons_succ]
              refine move_a (i := 5) (v := ?_) rfl (by kernel_rfl) (by kernel_rfl) (by kernel_rfl) (fun _ _ _ h => h) (by rfl) ?_ ?_
              rotate_left
              · (intro w; go_simp; try with_reducible rfl)
              try simp only [Act.put, List.setIfInBounds_toArray, List.set_cons_zero, List.set_cons_succ]
              refine move_a (i := 6) (v := ?_) rfl (by kernel_rfl) (by kernel_rfl) (by kernel_rfl) (fun _ _ _ h => h) (by rfl) ?_ ?_
              rotate_left
              · (intro w; go_simp; try with_reducible rfl)
              try simp only [Act.put, List.setIfInBounds_toArray, List.set_cons_zero, List.set_cons_succ]
              refine move_a (i := 8) (v := ?_) rfl (by kernel_rfl) (by kernel_rfl) (by kernel_rfl) (fun _ _ _ h => h) (by rfl) ?_ ?_
              rotate_left
              · (intro w; go_simp; try with_reducible rfl)
              try simp only [Act.put, List.setIfInBounds_toArray, List.set_cons_zero, List.set_cons_succ]
              refine move_a (i := 9) (v := ?_) rfl (by kernel_rfl) (by kernel_rfl) (by kernel_rfl) (fun _ _ _ h => h) (by rfl) ?_ ?_
              rotate_left
              · (intro w; go_simp; try with_reducible rfl)
              try simp only [Act.put, List.setIfInBounds_toArray, List.set_cons_zero, List.set_cons_succ]
              refine move_e (i := 2) (by kernel_rfl) rfl (fun K hK => ?_)
              go_simp
              refine hK _ _ (fun hS => trivial) ?_
              clear hK K
              try simp only [Act.put, List.setIfInBounds_toArray, List.set_cons_zero, List.set_cons_succ]
              refine move_c (i := 7) (by kernel_rfl) rfl (by rfl) (fun K hK => ?_)
              (refine stepApp (w0 := w3.drew) (base := w3.drew.heap.size) rfl (.tmp 65) (.tmp 69) rfl rfl rfl (OwB.lit0 w3.drew _ (Nat.le_refl _)) (HCR.out.below ((Below.refl w3.heap.size w3).alloc (Nat.le_refl _) _).drew) (RB.out.alloc (Nat.le_refl _) _) (by simp) (by omega) ?_; intro A2 n2 c2 w2 ho hb; rw [List.nil_append] at ho; have HO2 := Lib.hid ho; have HB2 : Hid (Below w3.heap.size w3 w2) := Lib.hid ((Below.refl w3.heap.size w3).drew.trans hb); have y1 := (H3.out.below HB2.out).cells.2.2.2.1; have z1 := (H3.out.below HB2.out).free 3; clear ho hb)
              refine hK _ _ ?_
              clear hK K
              try simp only [Act.put, List.setIfInBounds_toArray, List.set_cons_zero, List.set_cons_succ]
              refine move_a (i := 10) (v := ?_) rfl (by kernel_rfl) (by kernel_rfl) (by kernel_rfl) (fun _ _ _ h => h) (by rfl) ?_ ?_
              rotate_left
              · (intro w; go_simp; try with_reducible rfl)
              try simp only [Act.put, List.setIfInBounds_toArray, List.set_cons_zero, List.set_cons_succ]
              refine move_c (i := 11) (by kernel_rfl) rfl (by rfl) (fun K hK => ?_)
              go_simp
              refine hK _ _ ?_
              clear hK K
              try simp only [Act.put, List.setIfInBounds_toArray, List.set_cons_zero, List.set_cons_succ]
              refine move_d (by kernel_rfl) ?_
              have HF := Lib.hid (H3.out.slotN HB2.out (i := 3) (x := ⟨A2, n2, c2⟩) (by omega) (OwF.of HO2.out))
              have HF1 : Hid (RAt (w2.setCell ⟨p, 3, none⟩ (.slice A2 n2 c2)) base p (upd cs 3 ⟨A2, n2, c2⟩) (cutB d2 1 N)) := Lib.hid (by rw [HCB.out, ← HFB.out, ← HSN.out]; exact HF.out.1)
              have HF2 : Hid (DStep w3 base p cs (w2.setCell ⟨p, 3, none⟩ (.slice A2 n2 c2)) (upd cs 3 ⟨A2, n2, c2⟩)) := Lib.hid HF.out.2
              clear HF y1 z1
              go_wp2
              go_ret
              refine ⟨by rw [HA.out]; rfl, _, ?_, S3.out.trans HF2.out⟩
              rw [HA.out]
              show RAt _ _ _ _ (cutD d 1 N)
              rw [HS.out, HG.out]
              exact HF1.out
          · have e7 := h3.cells.2.2.2.2.2.2.2
            rw [HKK.out] at e7
            have HO := Lib.hid (roff_any h3 HSM.out d.k)
            clear h3 s3
            go_wp2_with fail
            refine HO.out.mono ?_
            rintro e w4 hret
            have HRt := Lib.hid (RetF.from S3.out hret)
            clear hret
            obtain ⟨rfl, cs4, h4, s4⟩ := HRt.out
            go_wp2
            go_ret
            refine ⟨by rw [HA.out]; rfl, cs4, ?_, s4⟩
            rw [HA.out]
            show RAt _ _ _ _ (cutD d 1 n.toNat)
            rw [HS.out, HG.out]
            exact h4
        · have HA := Lib.hid (HA.out.trans (if_pos (by rw [show rdy d 1 = ans d.off from rdy0 1 (by omega), ho]; decide)))
          rw [show rdy d 1 = 40 from by rw [show rdy d 1 = ans d.off from rdy0 1 (by omega), ho]; rfl] at HA
          rw [ho] at e4
          simp only [Bool.not_true] at e4
          clear ho
          go_wp2
          go_ret
          exact ⟨by rw [HA.out]; rfl, cs, by rw [HA.out]; exact H1.out, DStep.below HB1.out hbase⟩
    · have HA := Lib.hid (HA.out.trans (if_pos (rdy_bad hf0 hf1)))
      have hb0 : (f != 0) = true := by simp [hf0]
      have hb1 : (f != 1) = true := by simp [hf1]
      clear h hd hf0 hf1
      go_enter Try.func32, Try.ntmps32
      go_wp2
      go_ret
      exact ⟨by rw [HA.out]; rfl, cs, by rw [HA.out]; exact H.out, DStep.refl _ _ _ _⟩
end Go.Proofs.Ytbmdglbhmianjaa.refw
