/- What the disk's Sync and Truncate compute. -/
import Derived.Test.YtbmdglbhmianjaaDiskApp
set_option linter.unusedVariables false
set_option linter.unusedSimpArgs false
namespace Go.Proofs.Ytbmdglbhmianjaa.diskw
open Go.RowKit Go.Proofs.YtbmdglbhmianjaaW.PrintWords Go.Proofs.Ytbmdglbhmianjaa.base Go.Proofs.Ytbmdglbhmianjaa.mem Go.Proofs.Ytbmdglbhmianjaa.keep Go.Proofs.Ytbmdglbhmianjaa.diskp Go.Proofs.Ytbmdglbhmianjaa.diskr Go.Proofs.Ytbmdglbhmianjaa.ordt

def cutR (d : D) (f n : Int) : D × Int :=
  if rdy d f = 1 then (d, 1) else if n < 0 ∨ ((fileB d f.toNat).length : Int) < n then (d, 1) else if rdy d f ≠ 0 then (d, rdy d f) else (cutD d f.toNat n.toNat, ans (rawD d).2)
set_option maxHeartbeats 2000000 in
theorem sync_any {w : World} {base p : Nat} {cs : Nat → Sl} {d : D} (h : DAt w base p cs d) (hd : Fit d) (f : Int) :
    Calls Try.prog 19 #[.pointer (some ⟨p, 0, none⟩), .int .i64 f] w (RetD w base p cs (.int .i64 (syncR d f).2) (syncR d f).1) := by
  have HRD := Lib.hid (ready_any h f)
  have H := Lib.hid h
  have HA : Hid (syncR d f = if rdy d f ≠ 0 then (d, rdy d f) else (syncD d f.toNat, ans (rawD d).2)) := Lib.hid rfl
  by_cases h0 : rdy d f = 0
  · obtain ⟨i, rfl, hi, hoff⟩ := rdy_ok h0
    have HA := Lib.hid (HA.out.trans (if_neg (fun e => e h0)))
    rw [h0] at HRD
    have hii : (i : Int) < 2 := by omega
    have HRaw := Lib.hid (raw_any h hd.n hd.a)
    have HKK := Lib.hid (rawD_off d).2.2
    have HBB := Lib.hid (rawD_off d).2.1
    have HSM := Lib.hid hd.raw
    have HK := Lib.hid hd.k
    have HSZ := Lib.hid hd.b
    have HS : Hid (syncD d i = if (rawD d).2 then gone d else syncB (gone d) i) := Lib.hid rfl
    have HG : Hid (gone d = if (rawD d).2 then offD (rawD d).1 d.k else (rawD d).1) := Lib.hid rfl
    have htn : (i : Int).toNat = i := by omega
    have HTN := Lib.hid htn
    clear h hd h0 hoff htn
    generalize (rawD d).2 = gg at HRaw HG HA HS
    generalize (rawD d).1 = d2 at HRaw HG HKK HSM HBB
    go_enter Try.func19, Try.ntmps19
    go_wp2_with fail
    refine HRD.out.mono ?_
    rintro e w' ⟨rfl, rfl⟩
    go_wp2_with fail
    refine HRaw.out.mono ?_
    rintro e w3 ⟨rfl, h3, s3⟩
    have S3 := Lib.hid s3
    cases gg
    · have e0 := h3.at0 hi
      have e1 := h3.at1 hi
      have f0 := h3.free (i * 2)
      have f1 := h3.free (i * 2 + 1)
      have RS : Hid (OwB w3 base (cs (2 * i)).A (cs (2 * i)).n (cs (2 * i)).c (d2.b (2 * i))) := Lib.hid (h3.row (2 * i) (by omega))
      have RW : Hid (OwB w3 base (cs (2 * i + 1)).A (cs (2 * i + 1)).n (cs (2 * i + 1)).c (d2.b (2 * i + 1))) := Lib.hid (h3.row (2 * i + 1) (by omega))
      have hbs := h3.base_le
      have hpl := h3.plt
      have hnp := Lib.hid (h3.np (2 * i) (by omega))
      have HT := Lib.hid (fun A n c ys w1 hg hx ho => two_slots h3 (f := i) hi (A := A) (n := n) (c := c) (ys := ys) (w1 := w1) hg hx ho)
      have HOWN : Hid ((cs (2 * i)).own = (Value.slice (cs (2 * i)).A (cs (2 * i)).n (cs (2 * i)).c).ownBlock) := Lib.hid rfl
      have l0 : (cs (2 * i)).n ≤ 17592186044416 := by rw [← RS.out.len, HBB.out]; exact HSZ.out _ (by omega)
      have l1 : (cs (2 * i + 1)).n ≤ 17592186044416 := by rw [← RW.out.len, HBB.out]; exact HSZ.out _ (by omega)
      have hcap := RW.out.cap
      clear h3 s3
      generalize (cs (2 * i)).A = sA at *
      generalize (cs (2 * i)).n = sn at *
      generalize (cs (2 * i)).c = sc at *
      generalize (cs (2 * i + 1)).A = wA at *
      generalize (cs (2 * i + 1)).n = wn at *
      generalize (cs (2 * i + 1)).c = wc at *
      go_wp2_with fail
      refine begin_ (fun W : World => W.cell? ⟨p, i * 2, none⟩ = some (.slice sA sn sc) ∧ W.cell? ⟨p, i * 2 + 1, none⟩ = some (.slice wA wn wc)) [10, 13, 16] (by kernel_rfl) ?_
      have hSw : (fun W : World => W.cell? ⟨p, i * 2, none⟩ = some (.slice sA sn sc) ∧ W.cell? ⟨p, i * 2 + 1, none⟩ = some (.slice wA wn wc)) w3.drew := ⟨e0, e1⟩
      simp only [List.size_toArray, List.length_cons, List.length_nil, Nat.reduceAdd, Array.replicate_succ, Array.replicate_zero, List.push_toArray, List.append_toArray, List.nil_append, List.cons_append]
      refine move_a (i := 0) (v := ?_) rfl (by kernel_rfl) (by kernel_rfl) (by kernel_rfl) (fun _ _ _ h => h) (by rfl) ?_ ?_
      rotate_left
      · (intro w; go_simp; try with_reducible rfl)
      try simp only [Act.put, List.setIfInBounds_toArray, List.set_cons_zero, List.set_cons_succ]
      refine move_a (i := 1) (v := ?_) rfl (by kernel_rfl) (by kernel_rfl) (by kernel_rfl) (fun _ _ _ h => h) (by rfl) ?_ ?_
      rotate_left
      · (intro w; go_simp; try with_reducible rfl)
      try simp only [Act.put, List.setIfInBounds_toArray, List.set_cons_zero, List.set_cons_succ]
      refine move_a (i := 2) (v := ?_) rfl (by kernel_rfl) (by kernel_rfl) (by kernel_rfl) (fun _ _ _ h => h) (by rfl) ?_ ?_
      rotate_left
      · (intro w; go_simp; try with_reducible rfl)
      try simp only [Act.put, List.setIfInBounds_toArray, List.set_cons_zero, List.set_cons_succ]
      refine move_a (i := 3) (v := ?_) rfl (by kernel_rfl) (by kernel_rfl) (by kernel_rfl) (fun _ _ _ h => h) (by rfl) ?_ ?_
      rotate_left
      · (intro w; go_simp; try with_reducible rfl)
      try simp only [Act.put, List.setIfInBounds_toArray, List.set_cons_zero, List.set_cons_succ]
      refine move_a (i := 4) (v := ?_) rfl (by kernel_rfl) (by kernel_rfl) (by kernel_rfl) (fun _ _ _ h => h) (by rfl) ?_ ?_
      rotate_left
      · (intro w; go_simp; try with_reducible rfl)
      try simp only [Act.put, List.setIfInBounds_toArray, List.set_cons_zero, List.set_cons_succ]
      refine move_b [10, 13, 16] [10, 13, 16] (i := 5) (v := ?_) rfl (by kernel_rfl) (by kernel_rfl) (by kernel_rfl) (fun _ _ _ h => h) (by kernel_rfl) (by kernel_rfl) (by kernel_rfl) (by rfl) ?_ hSw ?_
      rotate_left
      · (intro w hSw; (try dsimp only at hSw); go_simp; try with_reducible rfl)
      try simp only [Act.put, List.setIfInBounds_toArray, List.set_cons_zero, List.set_cons_succ]
      refine move_a (i := 6) (v := ?_) rfl (by kernel_rfl) (by kernel_rfl) (by kernel_rfl) (fun _ _ _ h => h) (by rfl) ?_ ?_
      rotate_left
      · (intro w; go_simp; try with_reducible rfl)
      try simp only [Act.put, List.setIfInBounds_toArray, List.set_cons_zero, List.set_cons_succ]
      refine move_a (i := 7) (v := ?_) rfl (by kernel_rfl) (by kernel_rfl) (by kernel_rfl) (fun _ _ _ h => h) (by rfl) ?_ ?_
      rotate_left
      · (intro w; go_simp; try with_reducible rfl)
      try simp only [Act.put, List.setIfInBounds_toArray, List.set_cons_zero, List.set_cons_succ]
      refine move_a (i := 8) (v := ?_) rfl (by kernel_rfl) (by kernel_rfl) (by kernel_rfl) (fun _ _ _ h => h) (by rfl) ?_ ?_
      rotate_left
      · (intro w; go_simp; try with_reducible rfl)
      try simp only [Act.put, List.setIfInBounds_toArray, List.set_cons_zero, List.set_cons_succ]
      refine move_b [10, 13, 16] [10, 13, 16] (i := 9) (v := ?_) rfl (by kernel_rfl) (by kernel_rfl) (by kernel_rfl) (fun _ _ _ h => h) (by kernel_rfl) (by kernel_rfl) (by kernel_rfl) (by rfl) ?_ hSw ?_
      rotate_left
      · (intro w hSw; (try dsimp only at hSw); go_simp; try with_reducible rfl)
      try simp only [Act.put, List.setIfInBounds_toArray, List.set_cons_zero, List.set_cons_succ]
      refine move_c (i := 10) (by kernel_rfl) rfl (by rfl) (fun K hK => ?_)
      (refine stepAppH rfl (.tmp 31) (.tmp 35) rfl rfl rfl (RS.out.below (Below.refl _ _).drew) (RW.out.rd.below (Below.refl _ _).drew) hbs (by omega) ?_; intro A1 n1 c1 w1 ho hg hob; have HO := Lib.hid ho; have HG1 := Lib.hid hg; have HOB := Lib.hid hob; have hpb : w1.heap[p]? = w3.heap[p]? := hg.block p hpl (fun e => hnp.out (HOWN.out.trans e.symm)); have y0 : w1.cell? ⟨p, i * 2, none⟩ = some (.slice sA sn sc) := (World.cell?_of_block hpb).trans e0; have y1 : w1.cell? ⟨p, i * 2 + 1, none⟩ = some (.slice wA wn wc) := (World.cell?_of_block hpb).trans e1; have z0 : w1.frozen? ⟨p, i * 2, none⟩ = false := (World.frozen?_of_block hpb).trans f0; have z1 : w1.frozen? ⟨p, i * 2 + 1, none⟩ = false := (World.frozen?_of_block hpb).trans f1; clear ho hg hob hpb)
      refine hK _ _ ?_
      clear hK K
      try simp only [Act.put, List.setIfInBounds_toArray, List.set_cons_zero, List.set_cons_succ]
      refine move_a (i := 11) (v := ?_) rfl (by kernel_rfl) (by kernel_rfl) (by kernel_rfl) (fun _ _ _ h => h) (by rfl) ?_ ?_
      rotate_left
      · (intro w; go_simp; try with_reducible rfl)
      try simp only [Act.put, List.setIfInBounds_toArray, List.set_cons_zero, List.set_cons_succ]
      refine move_a (i := 12) (v := ?_) rfl (by kernel_rfl) (by kernel_rfl) (by kernel_rfl) (fun _ _ _ h => h) (by rfl) ?_ ?_
      rotate_left
      · (intro w; go_simp; try with_reducible rfl)
      try simp only [Act.put, List.setIfInBounds_toArray, List.set_cons_zero, List.set_cons_succ]
      refine move_c (i := 13) (by kernel_rfl) rfl (by rfl) (fun K hK => ?_)
      go_simp
      refine hK _ _ ?_
      clear hK K
      try simp only [Act.put, List.setIfInBounds_toArray, List.set_cons_zero, List.set_cons_succ]
      refine move_a (i := 14) (v := ?_) rfl (by kernel_rfl) (by kernel_rfl) (by kernel_rfl) (fun _ _ _ h => h) (by rfl) ?_ ?_
      rotate_left
      · (intro w; go_simp; try with_reducible rfl)
      try simp only [Act.put, List.setIfInBounds_toArray, List.set_cons_zero, List.set_cons_succ]
      refine move_a (i := 15) (v := ?_) rfl (by kernel_rfl) (by kernel_rfl) (by kernel_rfl) (fun _ _ _ h => h) (by rfl) ?_ ?_
      rotate_left
      · (intro w; go_simp; try with_reducible rfl)
      try simp only [Act.put, List.setIfInBounds_toArray, List.set_cons_zero, List.set_cons_succ]
      refine move_c (i := 16) (by kernel_rfl) rfl (by rfl) (fun K hK => ?_)
      go_simp
      refine hK _ _ ?_
      clear hK K
      try simp only [Act.put, List.setIfInBounds_toArray, List.set_cons_zero, List.set_cons_succ]
      refine move_d (by kernel_rfl) ?_
      have HF := Lib.hid (HT.out A1 n1 c1 _ w1 (by rw [HOWN.out]; exact grownBy_undrew HG1.out) HO.out (fun g e => by rw [HOWN.out]; exact HOB.out g e))
      rw [Nat.mul_comm i 2]
      go_wp2
      go_ret
      refine ⟨by rw [HA.out]; rfl, _, ?_, S3.out.trans HF.out.2⟩
      rw [HA.out, HTN.out, HS.out, HG.out]
      exact HF.out.1
    · have e7 := h3.cells.2.2.2.2.2.2.2
      rw [HKK.out] at e7
      have HO := Lib.hid (off_any h3 HSM.out d.k HK.out)
      clear h3 s3
      go_wp2_with fail
      refine HO.out.mono ?_
      rintro e w4 hret
      have HRt := Lib.hid (RetD.from S3.out hret)
      clear hret
      obtain ⟨rfl, cs4, h4, s4⟩ := HRt.out
      go_wp2
      go_ret
      refine ⟨by rw [HA.out]; rfl, cs4, ?_, s4⟩
      rw [HA.out, HTN.out, HS.out, HG.out]
      exact h4
  · have HA := Lib.hid (HA.out.trans (if_pos h0))
    have hb : (rdy d f == 0) = false := by simp [h0]
    have hb2 : (rdy d f != 0) = true := by simp [h0]
    clear h hd h0
    generalize rdy d f = r at *
    go_enter Try.func19, Try.ntmps19
    go_wp2_with fail
    refine HRD.out.mono ?_
    rintro e w' ⟨rfl, rfl⟩
    go_wp2
    go_ret
    exact ⟨by rw [HA.out]; rfl, cs, by rw [HA.out]; exact H.out, DStep.refl _ _ _ _⟩
end Go.Proofs.Ytbmdglbhmianjaa.diskw
