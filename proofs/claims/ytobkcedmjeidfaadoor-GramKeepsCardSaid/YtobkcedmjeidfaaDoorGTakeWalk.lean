/- What gram.Take computes. -/
import Derived.Test.YtobkcedmjeidfaaDoorGTakePure
set_option linter.unusedVariables false
set_option linter.unusedSimpArgs false
namespace Go.Proofs.YtobkcedmjeidfaaDoor.gtake
open Go.RowKit Go.Proofs.YtobkcedmjeidfaaDoorW.PrintWords Go.Proofs.YtobkcedmjeidfaaDoor.base Go.Proofs.YtobkcedmjeidfaaDoor.mem Go.Proofs.YtobkcedmjeidfaaDoor.packp Go.Proofs.YtobkcedmjeidfaaDoor.packw Go.Proofs.YtobkcedmjeidfaaDoor.samew Go.Proofs.YtobkcedmjeidfaaDoor.wirep Go.Proofs.YtobkcedmjeidfaaDoor.wirew Go.Proofs.YtobkcedmjeidfaaDoor.takew Go.Proofs.YtobkcedmjeidfaaDoor.gramp Go.Proofs.YtobkcedmjeidfaaDoor.gramw

set_option maxHeartbeats 4000000 in
set_option maxRecDepth 100000 in
theorem gtake_any (A : Option Addr) (n c : Nat) (xs : List Int) (w : World) (hr : RdB w A n xs) (hc : n ≤ c) :
    Calls Tryd.prog 17 #[.slice A n c] w fun e w' => e = .returned (GRes.val (takeG xs)) ∧ Below w.heap.size w w' := by
  have HR := Lib.hid hr
  have hn := hr.max
  have HI := Lib.hid ((RowH.new w w.heap.size rfl [0, 0, 0, 0, 0, 0, 0, 0, 0]).below (below_alloc (Below.refl _ _) (.cells #[.int .i64 0, .int .i64 0, .int .i64 0, .int .i64 0, .int .i64 0, .int .i64 0, .int .i64 0, .int .i64 0, .int .i64 0] 26)))
  have HJ := Lib.hid (RowH.new (w.alloc (.cells #[.int .i64 0, .int .i64 0, .int .i64 0, .int .i64 0, .int .i64 0, .int .i64 0, .int .i64 0, .int .i64 0, .int .i64 0] 26)) (w.heap.size + 1) (by simp) [0, 0, 0, 0, 0, 0, 0, 0, 0])
  have HBI := Lib.hid ((below_alloc (Below.refl w.heap.size w) (.cells #[.int .i64 0, .int .i64 0, .int .i64 0, .int .i64 0, .int .i64 0, .int .i64 0, .int .i64 0, .int .i64 0, .int .i64 0] 26)).alloc (by simp) (.cells #[.int .i64 0, .int .i64 0, .int .i64 0, .int .i64 0, .int .i64 0, .int .i64 0, .int .i64 0, .int .i64 0, .int .i64 0] 26))
  clear hr
  go_enter Tryd.func17, Tryd.ntmps17
  go_wp2
  go_loopw [6, 19] (fun at_ i wr => ∃ (zs : List Int) (p : Nat), zs.length ≤ 4 ∧ p ≤ n ∧ i = .int .i64 zs.length ∧ at_ = .int .i64 p ∧ Aside0 (gres xs (4 - zs.length) zs p = takeG xs) ∧ Aside0 (RowH wr (w.heap.size + 1) [zs.getD 0 0, zs.getD 1 0, zs.getD 2 0, zs.getD 3 0, 0, 0, 0, 0, 0]) ∧ Aside0 (RowH wr w.heap.size [0, 0, 0, 0, 0, 0, 0, 0, 0]) ∧ Aside0 (Below w.heap.size w wr)) (fun _ i _ => 4 - (intOf i).toNat)
  case atStart => exact ⟨[], 0, by simp, by omega, rfl, rfl, ⟨rfl⟩, ⟨HJ.out⟩, ⟨HI.out⟩, ⟨HBI.out⟩⟩
  case round =>
    obtain ⟨zs, p, hz, hp, rfl, rfl, HE, HM, HZ, HB⟩ := hrel
    match zs, hz with
    | [], _ =>
      have e0 := HM.out.cell 0 (by simp)
      have m0 := HM.out.free 0
      have e1 := HM.out.cell 1 (by simp)
      have m1 := HM.out.free 1
      have e2 := HM.out.cell 2 (by simp)
      have m2 := HM.out.free 2
      have e3 := HM.out.cell 3 (by simp)
      have m3 := HM.out.free 3
      have e4 := HM.out.cell 4 (by simp)
      have m4 := HM.out.free 4
      have e5 := HM.out.cell 5 (by simp)
      have m5 := HM.out.free 5
      have e6 := HM.out.cell 6 (by simp)
      have m6 := HM.out.free 6
      have e7 := HM.out.cell 7 (by simp)
      have m7 := HM.out.free 7
      have e8 := HM.out.cell 8 (by simp)
      have m8 := HM.out.free 8
      have f0 := HZ.out.cell 0 (by simp)
      have q0 := HZ.out.free 0
      have f1 := HZ.out.cell 1 (by simp)
      have q1 := HZ.out.free 1
      have f2 := HZ.out.cell 2 (by simp)
      have q2 := HZ.out.free 2
      have f3 := HZ.out.cell 3 (by simp)
      have q3 := HZ.out.free 3
      have f4 := HZ.out.cell 4 (by simp)
      have q4 := HZ.out.free 4
      have f5 := HZ.out.cell 5 (by simp)
      have q5 := HZ.out.free 5
      have f6 := HZ.out.cell 6 (by simp)
      have q6 := HZ.out.free 6
      have f7 := HZ.out.cell 7 (by simp)
      have q7 := HZ.out.free 7
      have f8 := HZ.out.cell 8 (by simp)
      have q8 := HZ.out.free 8
      simp only [List.getD_cons_zero, List.getD_cons_succ, List.getD_nil] at e0 e1 e2 e3 e4 e5 e6 e7 e8 f0 f1 f2 f3 f4 f5 f6 f7 f8
      have hix := fun W => gx0 (some ⟨w.heap.size + 1, 0, none⟩) (some ⟨w.heap.size + 1, 1, none⟩) (some ⟨w.heap.size + 1, 2, none⟩) (some ⟨w.heap.size + 1, 3, none⟩) W
      obtain ⟨A2, n2, c2, hcut, hm1, hm2, hm3, hrd⟩ := cutL A n c p hp hc
      have HT := Lib.hid (fun W (h : RdB W A n xs) => take_any A2 n2 c2 (xs.drop p) W (hrd W xs h))
      have HF := Lib.hid (fun W (h : RdB W A n xs) => fault_any A2 n2 c2 (xs.drop p) W (hrd W xs h))
      have HRw := Lib.hid (HR.out.below HB.out)
      have hd := dec_len (xs.drop p) (HR.out.2.drop p)
      rw [List.length_drop, HR.out.len] at hd
      obtain ⟨x, hx⟩ : ∃ x, (dec 0 (xs.drop p)).1 = x := ⟨_, rfl⟩
      obtain ⟨q, hq⟩ : ∃ q, (dec 0 (xs.drop p)).2 = q := ⟨_, rfl⟩
      rw [hx, hq] at HT
      rw [hq] at hd
      have HX := Lib.hid hx
      have HQ := Lib.hid hq
      clear hx hq hrd
      by_cases h0 : q = 0
      · have HR0 := Lib.hid ((gres_short (f := 3) (zs := []) (HQ.out.trans h0)).symm.trans HE.out)
        subst h0
        clear hd
        go_wp2_with (first | (go_at_call 31; refine (HT.out _ HRw.out).mono ?_; rintro e w' ⟨rfl, rfl⟩) | (go_at_call 32; refine (HF.out _ HRw.out).mono ?_; rintro e w' ⟨rfl, rfl⟩))
        try simp only [Exit.inBlock, Exit.then]
        refine bodyPost_ret_by (results_row2 rfl _ _ w.heap.size 26 (0, 0) _ rfl (HZ.out.all 0 0 0 0 0 0 0 0 0 rfl) Tryd.underlying26 rfl (by kernel_rfl)) rfl ?_
        exact ⟨by rw [← HR0.out]; rfl, below9 HB.out _ _ _ _ _ _ _ _ _⟩
      · have HRS := Aside0.mk ((gres_step (f := 3) (zs := []) HX.out HQ.out h0).symm.trans HE.out)
        have hqb : ((q : Int) == 0) = false := beq_eq_false_iff_ne.2 (by omega)
        go_wp2_with (first | (go_at_call 31; refine (HT.out _ HRw.out).mono ?_; rintro e w' ⟨rfl, rfl⟩))
        go_roundw
        case rel => exact ⟨[x], p + q, by simp, by omega, rfl, by go_num, HRS, ⟨HM.out.set 0 x⟩, ⟨HZ.out.other (Nat.succ_ne_self _) _ _⟩, ⟨HB.out.setCell (p := ⟨w.heap.size + 1, 0, none⟩) (by show w.heap.size ≤ w.heap.size + 1; omega) _⟩⟩
        case measure => simp [intOf]
    | [z0], _ =>
      have e0 := HM.out.cell 0 (by simp)
      have m0 := HM.out.free 0
      have e1 := HM.out.cell 1 (by simp)
      have m1 := HM.out.free 1
      have e2 := HM.out.cell 2 (by simp)
      have m2 := HM.out.free 2
      have e3 := HM.out.cell 3 (by simp)
      have m3 := HM.out.free 3
      have e4 := HM.out.cell 4 (by simp)
      have m4 := HM.out.free 4
      have e5 := HM.out.cell 5 (by simp)
      have m5 := HM.out.free 5
      have e6 := HM.out.cell 6 (by simp)
      have m6 := HM.out.free 6
      have e7 := HM.out.cell 7 (by simp)
      have m7 := HM.out.free 7
      have e8 := HM.out.cell 8 (by simp)
      have m8 := HM.out.free 8
      have f0 := HZ.out.cell 0 (by simp)
      have q0 := HZ.out.free 0
      have f1 := HZ.out.cell 1 (by simp)
      have q1 := HZ.out.free 1
      have f2 := HZ.out.cell 2 (by simp)
      have q2 := HZ.out.free 2
      have f3 := HZ.out.cell 3 (by simp)
      have q3 := HZ.out.free 3
      have f4 := HZ.out.cell 4 (by simp)
      have q4 := HZ.out.free 4
      have f5 := HZ.out.cell 5 (by simp)
      have q5 := HZ.out.free 5
      have f6 := HZ.out.cell 6 (by simp)
      have q6 := HZ.out.free 6
      have f7 := HZ.out.cell 7 (by simp)
      have q7 := HZ.out.free 7
      have f8 := HZ.out.cell 8 (by simp)
      have q8 := HZ.out.free 8
      simp only [List.getD_cons_zero, List.getD_cons_succ, List.getD_nil] at e0 e1 e2 e3 e4 e5 e6 e7 e8 f0 f1 f2 f3 f4 f5 f6 f7 f8
      have hix := fun W => gx1 (some ⟨w.heap.size + 1, 0, none⟩) (some ⟨w.heap.size + 1, 1, none⟩) (some ⟨w.heap.size + 1, 2, none⟩) (some ⟨w.heap.size + 1, 3, none⟩) W
      obtain ⟨A2, n2, c2, hcut, hm1, hm2, hm3, hrd⟩ := cutL A n c p hp hc
      have HT := Lib.hid (fun W (h : RdB W A n xs) => take_any A2 n2 c2 (xs.drop p) W (hrd W xs h))
      have HF := Lib.hid (fun W (h : RdB W A n xs) => fault_any A2 n2 c2 (xs.drop p) W (hrd W xs h))
      have HRw := Lib.hid (HR.out.below HB.out)
      have hd := dec_len (xs.drop p) (HR.out.2.drop p)
      rw [List.length_drop, HR.out.len] at hd
      obtain ⟨x, hx⟩ : ∃ x, (dec 0 (xs.drop p)).1 = x := ⟨_, rfl⟩
      obtain ⟨q, hq⟩ : ∃ q, (dec 0 (xs.drop p)).2 = q := ⟨_, rfl⟩
      rw [hx, hq] at HT
      rw [hq] at hd
      have HX := Lib.hid hx
      have HQ := Lib.hid hq
      clear hx hq hrd
      by_cases h0 : q = 0
      · have HR0 := Lib.hid ((gres_short (f := 2) (zs := [z0]) (HQ.out.trans h0)).symm.trans HE.out)
        subst h0
        clear hd
        go_wp2_with (first | (go_at_call 31; refine (HT.out _ HRw.out).mono ?_; rintro e w' ⟨rfl, rfl⟩) | (go_at_call 32; refine (HF.out _ HRw.out).mono ?_; rintro e w' ⟨rfl, rfl⟩))
        try simp only [Exit.inBlock, Exit.then]
        refine bodyPost_ret_by (results_row2 rfl _ _ w.heap.size 26 (0, 0) _ rfl (HZ.out.all 0 0 0 0 0 0 0 0 0 rfl) Tryd.underlying26 rfl (by kernel_rfl)) rfl ?_
        exact ⟨by rw [← HR0.out]; rfl, below9 HB.out _ _ _ _ _ _ _ _ _⟩
      · have HRS := Aside0.mk ((gres_step (f := 2) (zs := [z0]) HX.out HQ.out h0).symm.trans HE.out)
        have hqb : ((q : Int) == 0) = false := beq_eq_false_iff_ne.2 (by omega)
        go_wp2_with (first | (go_at_call 31; refine (HT.out _ HRw.out).mono ?_; rintro e w' ⟨rfl, rfl⟩))
        go_roundw
        case rel => exact ⟨[z0, x], p + q, by simp, by omega, rfl, by go_num, HRS, ⟨HM.out.set 1 x⟩, ⟨HZ.out.other (Nat.succ_ne_self _) _ _⟩, ⟨HB.out.setCell (p := ⟨w.heap.size + 1, 1, none⟩) (by show w.heap.size ≤ w.heap.size + 1; omega) _⟩⟩
        case measure => simp [intOf]
    | [z0, z1], _ =>
      have e0 := HM.out.cell 0 (by simp)
      have m0 := HM.out.free 0
      have e1 := HM.out.cell 1 (by simp)
      have m1 := HM.out.free 1
      have e2 := HM.out.cell 2 (by simp)
      have m2 := HM.out.free 2
      have e3 := HM.out.cell 3 (by simp)
      have m3 := HM.out.free 3
      have e4 := HM.out.cell 4 (by simp)
      have m4 := HM.out.free 4
      have e5 := HM.out.cell 5 (by simp)
      have m5 := HM.out.free 5
      have e6 := HM.out.cell 6 (by simp)
      have m6 := HM.out.free 6
      have e7 := HM.out.cell 7 (by simp)
      have m7 := HM.out.free 7
      have e8 := HM.out.cell 8 (by simp)
      have m8 := HM.out.free 8
      have f0 := HZ.out.cell 0 (by simp)
      have q0 := HZ.out.free 0
      have f1 := HZ.out.cell 1 (by simp)
      have q1 := HZ.out.free 1
      have f2 := HZ.out.cell 2 (by simp)
      have q2 := HZ.out.free 2
      have f3 := HZ.out.cell 3 (by simp)
      have q3 := HZ.out.free 3
      have f4 := HZ.out.cell 4 (by simp)
      have q4 := HZ.out.free 4
      have f5 := HZ.out.cell 5 (by simp)
      have q5 := HZ.out.free 5
      have f6 := HZ.out.cell 6 (by simp)
      have q6 := HZ.out.free 6
      have f7 := HZ.out.cell 7 (by simp)
      have q7 := HZ.out.free 7
      have f8 := HZ.out.cell 8 (by simp)
      have q8 := HZ.out.free 8
      simp only [List.getD_cons_zero, List.getD_cons_succ, List.getD_nil] at e0 e1 e2 e3 e4 e5 e6 e7 e8 f0 f1 f2 f3 f4 f5 f6 f7 f8
      have hix := fun W => gx2 (some ⟨w.heap.size + 1, 0, none⟩) (some ⟨w.heap.size + 1, 1, none⟩) (some ⟨w.heap.size + 1, 2, none⟩) (some ⟨w.heap.size + 1, 3, none⟩) W
      obtain ⟨A2, n2, c2, hcut, hm1, hm2, hm3, hrd⟩ := cutL A n c p hp hc
      have HT := Lib.hid (fun W (h : RdB W A n xs) => take_any A2 n2 c2 (xs.drop p) W (hrd W xs h))
      have HF := Lib.hid (fun W (h : RdB W A n xs) => fault_any A2 n2 c2 (xs.drop p) W (hrd W xs h))
      have HRw := Lib.hid (HR.out.below HB.out)
      have hd := dec_len (xs.drop p) (HR.out.2.drop p)
      rw [List.length_drop, HR.out.len] at hd
      obtain ⟨x, hx⟩ : ∃ x, (dec 0 (xs.drop p)).1 = x := ⟨_, rfl⟩
      obtain ⟨q, hq⟩ : ∃ q, (dec 0 (xs.drop p)).2 = q := ⟨_, rfl⟩
      rw [hx, hq] at HT
      rw [hq] at hd
      have HX := Lib.hid hx
      have HQ := Lib.hid hq
      clear hx hq hrd
      by_cases h0 : q = 0
      · have HR0 := Lib.hid ((gres_short (f := 1) (zs := [z0, z1]) (HQ.out.trans h0)).symm.trans HE.out)
        subst h0
        clear hd
        go_wp2_with (first | (go_at_call 31; refine (HT.out _ HRw.out).mono ?_; rintro e w' ⟨rfl, rfl⟩) | (go_at_call 32; refine (HF.out _ HRw.out).mono ?_; rintro e w' ⟨rfl, rfl⟩))
        try simp only [Exit.inBlock, Exit.then]
        refine bodyPost_ret_by (results_row2 rfl _ _ w.heap.size 26 (0, 0) _ rfl (HZ.out.all 0 0 0 0 0 0 0 0 0 rfl) Tryd.underlying26 rfl (by kernel_rfl)) rfl ?_
        exact ⟨by rw [← HR0.out]; rfl, below9 HB.out _ _ _ _ _ _ _ _ _⟩
      · have HRS := Aside0.mk ((gres_step (f := 1) (zs := [z0, z1]) HX.out HQ.out h0).symm.trans HE.out)
        have hqb : ((q : Int) == 0) = false := beq_eq_false_iff_ne.2 (by omega)
        go_wp2_with (first | (go_at_call 31; refine (HT.out _ HRw.out).mono ?_; rintro e w' ⟨rfl, rfl⟩))
        go_roundw
        case rel => exact ⟨[z0, z1, x], p + q, by simp, by omega, rfl, by go_num, HRS, ⟨HM.out.set 2 x⟩, ⟨HZ.out.other (Nat.succ_ne_self _) _ _⟩, ⟨HB.out.setCell (p := ⟨w.heap.size + 1, 2, none⟩) (by show w.heap.size ≤ w.heap.size + 1; omega) _⟩⟩
        case measure => simp [intOf]
    | [z0, z1, z2], _ =>
      have e0 := HM.out.cell 0 (by simp)
      have m0 := HM.out.free 0
      have e1 := HM.out.cell 1 (by simp)
      have m1 := HM.out.free 1
      have e2 := HM.out.cell 2 (by simp)
      have m2 := HM.out.free 2
      have e3 := HM.out.cell 3 (by simp)
      have m3 := HM.out.free 3
      have e4 := HM.out.cell 4 (by simp)
      have m4 := HM.out.free 4
      have e5 := HM.out.cell 5 (by simp)
      have m5 := HM.out.free 5
      have e6 := HM.out.cell 6 (by simp)
      have m6 := HM.out.free 6
      have e7 := HM.out.cell 7 (by simp)
      have m7 := HM.out.free 7
      have e8 := HM.out.cell 8 (by simp)
      have m8 := HM.out.free 8
      have f0 := HZ.out.cell 0 (by simp)
      have q0 := HZ.out.free 0
      have f1 := HZ.out.cell 1 (by simp)
      have q1 := HZ.out.free 1
      have f2 := HZ.out.cell 2 (by simp)
      have q2 := HZ.out.free 2
      have f3 := HZ.out.cell 3 (by simp)
      have q3 := HZ.out.free 3
      have f4 := HZ.out.cell 4 (by simp)
      have q4 := HZ.out.free 4
      have f5 := HZ.out.cell 5 (by simp)
      have q5 := HZ.out.free 5
      have f6 := HZ.out.cell 6 (by simp)
      have q6 := HZ.out.free 6
      have f7 := HZ.out.cell 7 (by simp)
      have q7 := HZ.out.free 7
      have f8 := HZ.out.cell 8 (by simp)
      have q8 := HZ.out.free 8
      simp only [List.getD_cons_zero, List.getD_cons_succ, List.getD_nil] at e0 e1 e2 e3 e4 e5 e6 e7 e8 f0 f1 f2 f3 f4 f5 f6 f7 f8
      have hix := fun W => gx3 (some ⟨w.heap.size + 1, 0, none⟩) (some ⟨w.heap.size + 1, 1, none⟩) (some ⟨w.heap.size + 1, 2, none⟩) (some ⟨w.heap.size + 1, 3, none⟩) W
      obtain ⟨A2, n2, c2, hcut, hm1, hm2, hm3, hrd⟩ := cutL A n c p hp hc
      have HT := Lib.hid (fun W (h : RdB W A n xs) => take_any A2 n2 c2 (xs.drop p) W (hrd W xs h))
      have HF := Lib.hid (fun W (h : RdB W A n xs) => fault_any A2 n2 c2 (xs.drop p) W (hrd W xs h))
      have HRw := Lib.hid (HR.out.below HB.out)
      have hd := dec_len (xs.drop p) (HR.out.2.drop p)
      rw [List.length_drop, HR.out.len] at hd
      obtain ⟨x, hx⟩ : ∃ x, (dec 0 (xs.drop p)).1 = x := ⟨_, rfl⟩
      obtain ⟨q, hq⟩ : ∃ q, (dec 0 (xs.drop p)).2 = q := ⟨_, rfl⟩
      rw [hx, hq] at HT
      rw [hq] at hd
      have HX := Lib.hid hx
      have HQ := Lib.hid hq
      clear hx hq hrd
      by_cases h0 : q = 0
      · have HR0 := Lib.hid ((gres_short (f := 0) (zs := [z0, z1, z2]) (HQ.out.trans h0)).symm.trans HE.out)
        subst h0
        clear hd
        go_wp2_with (first | (go_at_call 31; refine (HT.out _ HRw.out).mono ?_; rintro e w' ⟨rfl, rfl⟩) | (go_at_call 32; refine (HF.out _ HRw.out).mono ?_; rintro e w' ⟨rfl, rfl⟩))
        try simp only [Exit.inBlock, Exit.then]
        refine bodyPost_ret_by (results_row2 rfl _ _ w.heap.size 26 (0, 0) _ rfl (HZ.out.all 0 0 0 0 0 0 0 0 0 rfl) Tryd.underlying26 rfl (by kernel_rfl)) rfl ?_
        exact ⟨by rw [← HR0.out]; rfl, below9 HB.out _ _ _ _ _ _ _ _ _⟩
      · have HRS := Aside0.mk ((gres_step (f := 0) (zs := [z0, z1, z2]) HX.out HQ.out h0).symm.trans HE.out)
        have hqb : ((q : Int) == 0) = false := beq_eq_false_iff_ne.2 (by omega)
        go_wp2_with (first | (go_at_call 31; refine (HT.out _ HRw.out).mono ?_; rintro e w' ⟨rfl, rfl⟩))
        go_roundw
        case rel => exact ⟨[z0, z1, z2, x], p + q, by simp, by omega, rfl, by go_num, HRS, ⟨HM.out.set 3 x⟩, ⟨HZ.out.other (Nat.succ_ne_self _) _ _⟩, ⟨HB.out.setCell (p := ⟨w.heap.size + 1, 3, none⟩) (by show w.heap.size ≤ w.heap.size + 1; omega) _⟩⟩
        case measure => simp [intOf]
    | [z0, z1, z2, z3], _ =>
      have e0 := HM.out.cell 0 (by simp)
      have m0 := HM.out.free 0
      have e1 := HM.out.cell 1 (by simp)
      have m1 := HM.out.free 1
      have e2 := HM.out.cell 2 (by simp)
      have m2 := HM.out.free 2
      have e3 := HM.out.cell 3 (by simp)
      have m3 := HM.out.free 3
      have e4 := HM.out.cell 4 (by simp)
      have m4 := HM.out.free 4
      have e5 := HM.out.cell 5 (by simp)
      have m5 := HM.out.free 5
      have e6 := HM.out.cell 6 (by simp)
      have m6 := HM.out.free 6
      have e7 := HM.out.cell 7 (by simp)
      have m7 := HM.out.free 7
      have e8 := HM.out.cell 8 (by simp)
      have m8 := HM.out.free 8
      have f0 := HZ.out.cell 0 (by simp)
      have q0 := HZ.out.free 0
      have f1 := HZ.out.cell 1 (by simp)
      have q1 := HZ.out.free 1
      have f2 := HZ.out.cell 2 (by simp)
      have q2 := HZ.out.free 2
      have f3 := HZ.out.cell 3 (by simp)
      have q3 := HZ.out.free 3
      have f4 := HZ.out.cell 4 (by simp)
      have q4 := HZ.out.free 4
      have f5 := HZ.out.cell 5 (by simp)
      have q5 := HZ.out.free 5
      have f6 := HZ.out.cell 6 (by simp)
      have q6 := HZ.out.free 6
      have f7 := HZ.out.cell 7 (by simp)
      have q7 := HZ.out.free 7
      have f8 := HZ.out.cell 8 (by simp)
      have q8 := HZ.out.free 8
      simp only [List.getD_cons_zero, List.getD_cons_succ, List.getD_nil] at e0 e1 e2 e3 e4 e5 e6 e7 e8 f0 f1 f2 f3 f4 f5 f6 f7 f8
      by_cases h3 : 0 < z3
      · obtain ⟨A2, n2, c2, hcut, hm1, hm2, hm3, hrd⟩ := cutL A n c p hp hc
        have HRw := Lib.hid (HR.out.below HB.out)
        have HT := Lib.hid (wtake_any A2 n2 c2 (xs.drop p) wr (hrd wr xs HRw.out) hm3)
        have htold := take_told (HR.out.2.drop p)
        obtain ⟨⟨⟨k, o, d, u, v⟩, qn, qe⟩, hR⟩ : ∃ R, takeM (xs.drop p) = R := ⟨_, rfl⟩
        rw [hR] at HT htold
        have HTR := Lib.hid hR
        have HT : Hid (Calls Tryd.prog 33 #[.slice A2 n2 c2] wr fun e w' => e = .returned (.tuple #[.agg #[.int .i64 k, .int .i64 o, .int .i64 d, .int .i64 u, .int .i64 v], .int .i64 qn, .int .i64 qe]) ∧ Below wr.heap.size wr w') := HT
        have hqn : qn + p ≤ n := by
          have h1 : qn ≤ (xs.drop p).length := by
            rcases htold with ⟨_, _, h, _⟩ | ⟨_, h, _⟩
            · exact h
            · have h : qn = 0 := h
              omega
          rw [List.length_drop, HR.out.len] at h1
          omega
        clear hR hrd htold
        by_cases he : qe = 0
        · subst he
          have HE2 : Hid (gfin ⟨z0, z1, z2, z3, ⟨k, o, d, u, v⟩⟩ (p + qn) = takeG xs) := Lib.hid ((gend_told (xs := xs) (zs := [z0, z1, z2, z3]) (p := p) h3 HTR.out).symm.trans HE.out)
          clear HTR
          go_wp2_with fail
          refine HT.out.mono ?_
          rintro e w5 ⟨rfl, hb⟩
          have HM5 := Lib.hid (HM.out.below hb)
          have HZ5 := Lib.hid (HZ.out.below hb)
          have HB5 := Lib.hid (HB.out.trans (hb.mono HB.out.size))
          have hlt5 := HM5.out.lt
          clear hb
          have e0 := HM5.out.cell 0 (by simp)
          have m0 := HM5.out.free 0
          have e1 := HM5.out.cell 1 (by simp)
          have m1 := HM5.out.free 1
          have e2 := HM5.out.cell 2 (by simp)
          have m2 := HM5.out.free 2
          have e3 := HM5.out.cell 3 (by simp)
          have m3 := HM5.out.free 3
          have e4 := HM5.out.cell 4 (by simp)
          have m4 := HM5.out.free 4
          have e5 := HM5.out.cell 5 (by simp)
          have m5 := HM5.out.free 5
          have e6 := HM5.out.cell 6 (by simp)
          have m6 := HM5.out.free 6
          have e7 := HM5.out.cell 7 (by simp)
          have m7 := HM5.out.free 7
          have e8 := HM5.out.cell 8 (by simp)
          have m8 := HM5.out.free 8
          have f0 := HZ5.out.cell 0 (by simp)
          have q0 := HZ5.out.free 0
          have f1 := HZ5.out.cell 1 (by simp)
          have q1 := HZ5.out.free 1
          have f2 := HZ5.out.cell 2 (by simp)
          have q2 := HZ5.out.free 2
          have f3 := HZ5.out.cell 3 (by simp)
          have q3 := HZ5.out.free 3
          have f4 := HZ5.out.cell 4 (by simp)
          have q4 := HZ5.out.free 4
          have f5 := HZ5.out.cell 5 (by simp)
          have q5 := HZ5.out.free 5
          have f6 := HZ5.out.cell 6 (by simp)
          have q6 := HZ5.out.free 6
          have f7 := HZ5.out.cell 7 (by simp)
          have q7 := HZ5.out.free 7
          have f8 := HZ5.out.cell 8 (by simp)
          have q8 := HZ5.out.free 8
          simp only [List.getD_cons_zero, List.getD_cons_succ, List.getD_nil] at e0 e1 e2 e3 e4 e5 e6 e7 e8 f0 f1 f2 f3 f4 f5 f6 f7 f8
          have BW5 := Lib.hid (below5b HB5.out HB5.out.size (.int .i64 k) (.int .i64 o) (.int .i64 d) (.int .i64 u) (.int .i64 v) (.cells #[.int .i64 k, .int .i64 o, .int .i64 d, .int .i64 u, .int .i64 v] 24))
          have HV := Lib.hid (fun W => gvalid_any ⟨z0, z1, z2, z3, ⟨k, o, d, u, v⟩⟩ W)
          have HV : Hid (∀ W, Calls Tryd.prog 12 #[.agg #[.int .i64 z0, .int .i64 z1, .int .i64 z2, .int .i64 z3, .int .i64 k, .int .i64 o, .int .i64 d, .int .i64 u, .int .i64 v]] W fun e w' => e = .returned (.bool (G.valid ⟨z0, z1, z2, z3, ⟨k, o, d, u, v⟩⟩)) ∧ Below W.heap.size W w') := HV
          cases hv : G.valid ⟨z0, z1, z2, z3, ⟨k, o, d, u, v⟩⟩
          · have HR0 := Lib.hid ((gfin_bad hv).symm.trans HE2.out)
            rw [hv] at HV
            clear hv
            go_wp2_with fail
            refine (HV.out _).mono ?_
            rintro e w9 ⟨rfl, hb⟩
            have HZ9 := Lib.hid (((((((HZ5.out.other (Nat.succ_ne_self _) 4 _).other (Nat.succ_ne_self _) 5 _).other (Nat.succ_ne_self _) 6 _).other (Nat.succ_ne_self _) 7 _).other (Nat.succ_ne_self _) 8 _).alloc _).below hb)
            have HM9 := Lib.hid (((((((HM5.out.set 4 k).set 5 o).set 6 d).set 7 u).set 8 v).alloc _).below hb)
            have HB9 := Lib.hid ((BW5.out).trans (hb.mono (BW5.out).size))
            clear hb
            have e0 := HM9.out.cell 0 (by simp)
            have m0 := HM9.out.free 0
            have e1 := HM9.out.cell 1 (by simp)
            have m1 := HM9.out.free 1
            have e2 := HM9.out.cell 2 (by simp)
            have m2 := HM9.out.free 2
            have e3 := HM9.out.cell 3 (by simp)
            have m3 := HM9.out.free 3
            have e4 := HM9.out.cell 4 (by simp)
            have m4 := HM9.out.free 4
            have e5 := HM9.out.cell 5 (by simp)
            have m5 := HM9.out.free 5
            have e6 := HM9.out.cell 6 (by simp)
            have m6 := HM9.out.free 6
            have e7 := HM9.out.cell 7 (by simp)
            have m7 := HM9.out.free 7
            have e8 := HM9.out.cell 8 (by simp)
            have m8 := HM9.out.free 8
            have f0 := HZ9.out.cell 0 (by simp)
            have q0 := HZ9.out.free 0
            have f1 := HZ9.out.cell 1 (by simp)
            have q1 := HZ9.out.free 1
            have f2 := HZ9.out.cell 2 (by simp)
            have q2 := HZ9.out.free 2
            have f3 := HZ9.out.cell 3 (by simp)
            have q3 := HZ9.out.free 3
            have f4 := HZ9.out.cell 4 (by simp)
            have q4 := HZ9.out.free 4
            have f5 := HZ9.out.cell 5 (by simp)
            have q5 := HZ9.out.free 5
            have f6 := HZ9.out.cell 6 (by simp)
            have q6 := HZ9.out.free 6
            have f7 := HZ9.out.cell 7 (by simp)
            have q7 := HZ9.out.free 7
            have f8 := HZ9.out.cell 8 (by simp)
            have q8 := HZ9.out.free 8
            simp only [List.getD_cons_zero, List.getD_cons_succ, List.getD_nil] at e0 e1 e2 e3 e4 e5 e6 e7 e8 f0 f1 f2 f3 f4 f5 f6 f7 f8
            go_wp2
            try simp only [Exit.inBlock, Exit.then]
            refine bodyPost_ret_by (results_row2 rfl _ _ w.heap.size 26 (0, 0) _ rfl (HZ9.out.all 0 0 0 0 0 0 0 0 0 rfl) Tryd.underlying26 rfl (by kernel_rfl)) rfl ?_
            exact ⟨by rw [← HR0.out]; rfl, below9 HB9.out _ _ _ _ _ _ _ _ _⟩
          · have HR0 := Lib.hid ((gfin_good hv).symm.trans HE2.out)
            rw [hv] at HV
            clear hv
            go_wp2_with fail
            refine (HV.out _).mono ?_
            rintro e w9 ⟨rfl, hb⟩
            have HZ9 := Lib.hid (((((((HZ5.out.other (Nat.succ_ne_self _) 4 _).other (Nat.succ_ne_self _) 5 _).other (Nat.succ_ne_self _) 6 _).other (Nat.succ_ne_self _) 7 _).other (Nat.succ_ne_self _) 8 _).alloc _).below hb)
            have HM9 := Lib.hid (((((((HM5.out.set 4 k).set 5 o).set 6 d).set 7 u).set 8 v).alloc _).below hb)
            have HB9 := Lib.hid ((BW5.out).trans (hb.mono (BW5.out).size))
            clear hb
            have e0 := HM9.out.cell 0 (by simp)
            have m0 := HM9.out.free 0
            have e1 := HM9.out.cell 1 (by simp)
            have m1 := HM9.out.free 1
            have e2 := HM9.out.cell 2 (by simp)
            have m2 := HM9.out.free 2
            have e3 := HM9.out.cell 3 (by simp)
            have m3 := HM9.out.free 3
            have e4 := HM9.out.cell 4 (by simp)
            have m4 := HM9.out.free 4
            have e5 := HM9.out.cell 5 (by simp)
            have m5 := HM9.out.free 5
            have e6 := HM9.out.cell 6 (by simp)
            have m6 := HM9.out.free 6
            have e7 := HM9.out.cell 7 (by simp)
            have m7 := HM9.out.free 7
            have e8 := HM9.out.cell 8 (by simp)
            have m8 := HM9.out.free 8
            have f0 := HZ9.out.cell 0 (by simp)
            have q0 := HZ9.out.free 0
            have f1 := HZ9.out.cell 1 (by simp)
            have q1 := HZ9.out.free 1
            have f2 := HZ9.out.cell 2 (by simp)
            have q2 := HZ9.out.free 2
            have f3 := HZ9.out.cell 3 (by simp)
            have q3 := HZ9.out.free 3
            have f4 := HZ9.out.cell 4 (by simp)
            have q4 := HZ9.out.free 4
            have f5 := HZ9.out.cell 5 (by simp)
            have q5 := HZ9.out.free 5
            have f6 := HZ9.out.cell 6 (by simp)
            have q6 := HZ9.out.free 6
            have f7 := HZ9.out.cell 7 (by simp)
            have q7 := HZ9.out.free 7
            have f8 := HZ9.out.cell 8 (by simp)
            have q8 := HZ9.out.free 8
            simp only [List.getD_cons_zero, List.getD_cons_succ, List.getD_nil] at e0 e1 e2 e3 e4 e5 e6 e7 e8 f0 f1 f2 f3 f4 f5 f6 f7 f8
            go_wp2
            try simp only [Exit.inBlock, Exit.then]
            refine bodyPost_ret_by (results_row2 rfl _ _ w.heap.size 26 (0, 0) _ rfl (HZ9.out.all z0 z1 z2 z3 k o d u v rfl) Tryd.underlying26 rfl (by kernel_rfl)) rfl ?_
            exact ⟨by rw [← HR0.out]; rfl, below9 HB9.out _ _ _ _ _ _ _ _ _⟩
        · have HE2 : Hid (⟨noG, 0, qe⟩ = takeG xs) := Lib.hid ((gend_bad (xs := xs) (zs := [z0, z1, z2, z3]) (p := p) h3 HTR.out he).symm.trans HE.out)
          have heb : (qe == 0) = false := beq_eq_false_iff_ne.2 he
          have heb2 : (qe != 0) = true := by simp [he]
          clear HTR
          go_wp2_with fail
          refine HT.out.mono ?_
          rintro e w5 ⟨rfl, hb⟩
          have HZ5 := Lib.hid (HZ.out.below hb)
          have HB5 := Lib.hid (HB.out.trans (hb.mono HB.out.size))
          have hlt5 := HZ5.out.lt
          clear hb
          have f0 := HZ5.out.cell 0 (by simp)
          have q0 := HZ5.out.free 0
          have f1 := HZ5.out.cell 1 (by simp)
          have q1 := HZ5.out.free 1
          have f2 := HZ5.out.cell 2 (by simp)
          have q2 := HZ5.out.free 2
          have f3 := HZ5.out.cell 3 (by simp)
          have q3 := HZ5.out.free 3
          have f4 := HZ5.out.cell 4 (by simp)
          have q4 := HZ5.out.free 4
          have f5 := HZ5.out.cell 5 (by simp)
          have q5 := HZ5.out.free 5
          have f6 := HZ5.out.cell 6 (by simp)
          have q6 := HZ5.out.free 6
          have f7 := HZ5.out.cell 7 (by simp)
          have q7 := HZ5.out.free 7
          have f8 := HZ5.out.cell 8 (by simp)
          have q8 := HZ5.out.free 8
          simp only [List.getD_cons_zero, List.getD_cons_succ, List.getD_nil] at f0 f1 f2 f3 f4 f5 f6 f7 f8
          go_wp2
          try simp only [Exit.inBlock, Exit.then]
          refine bodyPost_ret_by (results_row2 rfl _ _ w.heap.size 26 (0, 0) _ rfl ((HZ5.out.all 0 0 0 0 0 0 0 0 0 rfl).alloc _) Tryd.underlying26 rfl (by kernel_rfl)) rfl ?_
          exact ⟨by rw [← HE2.out]; rfl, (below9 HB5.out _ _ _ _ _ _ _ _ _).alloc (below9 HB5.out _ _ _ _ _ _ _ _ _).size _⟩
      · have HE2 : Hid (gfin ⟨z0, z1, z2, z3, ⟨0, 0, 0, 0, 0⟩⟩ p = takeG xs) := Lib.hid ((gend_bare (xs := xs) (zs := [z0, z1, z2, z3]) (p := p) h3).symm.trans HE.out)
        have HV := Lib.hid (fun W => gvalid_any ⟨z0, z1, z2, z3, ⟨0, 0, 0, 0, 0⟩⟩ W)
        have HV : Hid (∀ W, Calls Tryd.prog 12 #[.agg #[.int .i64 z0, .int .i64 z1, .int .i64 z2, .int .i64 z3, .int .i64 0, .int .i64 0, .int .i64 0, .int .i64 0, .int .i64 0]] W fun e w' => e = .returned (.bool (G.valid ⟨z0, z1, z2, z3, ⟨0, 0, 0, 0, 0⟩⟩)) ∧ Below W.heap.size W w') := HV
        cases hv : G.valid ⟨z0, z1, z2, z3, ⟨0, 0, 0, 0, 0⟩⟩
        · have HR0 := Lib.hid ((gfin_bad hv).symm.trans HE2.out)
          rw [hv] at HV
          clear hv
          go_wp2_with fail
          refine (HV.out _).mono ?_
          rintro e w9 ⟨rfl, hb⟩
          have HZ9 := Lib.hid ((HZ.out).below hb)
          have HM9 := Lib.hid ((HM.out).below hb)
          have HB9 := Lib.hid ((HB.out).trans (hb.mono (HB.out).size))
          clear hb
          have e0 := HM9.out.cell 0 (by simp)
          have m0 := HM9.out.free 0
          have e1 := HM9.out.cell 1 (by simp)
          have m1 := HM9.out.free 1
          have e2 := HM9.out.cell 2 (by simp)
          have m2 := HM9.out.free 2
          have e3 := HM9.out.cell 3 (by simp)
          have m3 := HM9.out.free 3
          have e4 := HM9.out.cell 4 (by simp)
          have m4 := HM9.out.free 4
          have e5 := HM9.out.cell 5 (by simp)
          have m5 := HM9.out.free 5
          have e6 := HM9.out.cell 6 (by simp)
          have m6 := HM9.out.free 6
          have e7 := HM9.out.cell 7 (by simp)
          have m7 := HM9.out.free 7
          have e8 := HM9.out.cell 8 (by simp)
          have m8 := HM9.out.free 8
          have f0 := HZ9.out.cell 0 (by simp)
          have q0 := HZ9.out.free 0
          have f1 := HZ9.out.cell 1 (by simp)
          have q1 := HZ9.out.free 1
          have f2 := HZ9.out.cell 2 (by simp)
          have q2 := HZ9.out.free 2
          have f3 := HZ9.out.cell 3 (by simp)
          have q3 := HZ9.out.free 3
          have f4 := HZ9.out.cell 4 (by simp)
          have q4 := HZ9.out.free 4
          have f5 := HZ9.out.cell 5 (by simp)
          have q5 := HZ9.out.free 5
          have f6 := HZ9.out.cell 6 (by simp)
          have q6 := HZ9.out.free 6
          have f7 := HZ9.out.cell 7 (by simp)
          have q7 := HZ9.out.free 7
          have f8 := HZ9.out.cell 8 (by simp)
          have q8 := HZ9.out.free 8
          simp only [List.getD_cons_zero, List.getD_cons_succ, List.getD_nil] at e0 e1 e2 e3 e4 e5 e6 e7 e8 f0 f1 f2 f3 f4 f5 f6 f7 f8
          go_wp2
          try simp only [Exit.inBlock, Exit.then]
          refine bodyPost_ret_by (results_row2 rfl _ _ w.heap.size 26 (0, 0) _ rfl (HZ9.out.all 0 0 0 0 0 0 0 0 0 rfl) Tryd.underlying26 rfl (by kernel_rfl)) rfl ?_
          exact ⟨by rw [← HR0.out]; rfl, below9 HB9.out _ _ _ _ _ _ _ _ _⟩
        · have HR0 := Lib.hid ((gfin_good hv).symm.trans HE2.out)
          rw [hv] at HV
          clear hv
          go_wp2_with fail
          refine (HV.out _).mono ?_
          rintro e w9 ⟨rfl, hb⟩
          have HZ9 := Lib.hid ((HZ.out).below hb)
          have HM9 := Lib.hid ((HM.out).below hb)
          have HB9 := Lib.hid ((HB.out).trans (hb.mono (HB.out).size))
          clear hb
          have e0 := HM9.out.cell 0 (by simp)
          have m0 := HM9.out.free 0
          have e1 := HM9.out.cell 1 (by simp)
          have m1 := HM9.out.free 1
          have e2 := HM9.out.cell 2 (by simp)
          have m2 := HM9.out.free 2
          have e3 := HM9.out.cell 3 (by simp)
          have m3 := HM9.out.free 3
          have e4 := HM9.out.cell 4 (by simp)
          have m4 := HM9.out.free 4
          have e5 := HM9.out.cell 5 (by simp)
          have m5 := HM9.out.free 5
          have e6 := HM9.out.cell 6 (by simp)
          have m6 := HM9.out.free 6
          have e7 := HM9.out.cell 7 (by simp)
          have m7 := HM9.out.free 7
          have e8 := HM9.out.cell 8 (by simp)
          have m8 := HM9.out.free 8
          have f0 := HZ9.out.cell 0 (by simp)
          have q0 := HZ9.out.free 0
          have f1 := HZ9.out.cell 1 (by simp)
          have q1 := HZ9.out.free 1
          have f2 := HZ9.out.cell 2 (by simp)
          have q2 := HZ9.out.free 2
          have f3 := HZ9.out.cell 3 (by simp)
          have q3 := HZ9.out.free 3
          have f4 := HZ9.out.cell 4 (by simp)
          have q4 := HZ9.out.free 4
          have f5 := HZ9.out.cell 5 (by simp)
          have q5 := HZ9.out.free 5
          have f6 := HZ9.out.cell 6 (by simp)
          have q6 := HZ9.out.free 6
          have f7 := HZ9.out.cell 7 (by simp)
          have q7 := HZ9.out.free 7
          have f8 := HZ9.out.cell 8 (by simp)
          have q8 := HZ9.out.free 8
          simp only [List.getD_cons_zero, List.getD_cons_succ, List.getD_nil] at e0 e1 e2 e3 e4 e5 e6 e7 e8 f0 f1 f2 f3 f4 f5 f6 f7 f8
          go_wp2
          try simp only [Exit.inBlock, Exit.then]
          refine bodyPost_ret_by (results_row2 rfl _ _ w.heap.size 26 (0, 0) _ rfl (HZ9.out.all z0 z1 z2 z3 0 0 0 0 0 rfl) Tryd.underlying26 rfl (by kernel_rfl)) rfl ?_
          exact ⟨by rw [← HR0.out]; rfl, below9 HB9.out _ _ _ _ _ _ _ _ _⟩
end Go.Proofs.YtobkcedmjeidfaaDoor.gtake
