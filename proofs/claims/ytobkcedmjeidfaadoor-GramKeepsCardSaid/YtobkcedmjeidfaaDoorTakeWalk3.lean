/- What the reference's Take computes. -/
import Derived.Test.YtobkcedmjeidfaaDoorTakeWalk2
import Derived.Test.YtobkcedmjeidfaaDoorMemI
set_option linter.unusedVariables false
set_option linter.unusedSimpArgs false
namespace Go.Proofs.YtobkcedmjeidfaaDoor.takew
open Go.RowKit Go.Proofs.YtobkcedmjeidfaaDoorW.PrintWords Go.Proofs.YtobkcedmjeidfaaDoor.base Go.Proofs.YtobkcedmjeidfaaDoor.mem Go.Proofs.YtobkcedmjeidfaaDoor.packp Go.Proofs.YtobkcedmjeidfaaDoor.packw Go.Proofs.YtobkcedmjeidfaaDoor.samew Go.Proofs.YtobkcedmjeidfaaDoor.wirep Go.Proofs.YtobkcedmjeidfaaDoor.wirew

set_option maxHeartbeats 2000000 in
theorem refwtake_any (A : Option Addr) (n c : Nat) (xs : List Int) (w : World) (hr : RdB w A n xs) (hc : n ≤ c) :
    Calls Tryd.prog 36 #[.slice A n c] w fun e w' => e = .returned (Res.val (takeM xs)) ∧ Below w.heap.size w w' := by
  have HR := Lib.hid hr
  have hn := hr.max
  have HI := Lib.hid (BoxH.new w w.heap.size rfl 0 0 0 0 0)
  have HBI := Lib.hid (below_alloc (Below.refl w.heap.size w) (.cells #[.int .i64 0, .int .i64 0, .int .i64 0, .int .i64 0, .int .i64 0] 24))
  have hs0 : w.heap.size < (w.alloc (.cells #[.int .i64 0, .int .i64 0, .int .i64 0, .int .i64 0, .int .i64 0] 24)).heap.size := by simp
  clear hr
  go_enter Tryd.func36, Tryd.ntmps36
  go_wp2
  generalize w.alloc (.cells #[.int .i64 0, .int .i64 0, .int .i64 0, .int .i64 0, .int .i64 0] 24) = W0 at HI HBI hs0 ⊢
  go_loopw [5, 6] (fun nv at_ wr => ∃ (zs : List Int) (p : Nat) (A1 : Option Addr) (n1 c1 : Nat), zs.length ≤ 5 ∧ p ≤ n ∧ nv = .slice A1 n1 c1 ∧ at_ = .int .i64 p ∧ Aside0 (res xs (5 - zs.length) zs p = takeM xs) ∧ Aside0 (OwI wr W0.heap.size A1 n1 c1 zs) ∧ Aside0 (Below W0.heap.size W0 wr)) (fun nv _ _ => 5 - (match nv with | .slice _ k _ => k | _ => 0))
  case atStart => exact ⟨[], 0, none, 0, 0, by simp, by omega, rfl, rfl, ⟨rfl⟩, ⟨OwI.nil _ _⟩, ⟨Below.refl _ _⟩⟩
  case round =>
    obtain ⟨zs, p, A1, n1, c1, hz, hp, rfl, rfl, HE, HO, HB⟩ := hrel
    have HZ := Lib.hid (HI.out.below HB.out)
    have HBW := Lib.hid (HBI.out.trans (HB.out.mono (Nat.le_of_lt hs0)))
    have hsr := HB.out.size
    have hl := HO.out.len
    match zs, hz with
    | [], _ =>
      have hl2 : 0 = n1 := hl
      subst hl2
      clear hl
      obtain ⟨f0, f1, f2, f3, f4⟩ := HZ.out.box
      have q0 := HZ.out.free 0
      have q1 := HZ.out.free 1
      have q2 := HZ.out.free 2
      have q3 := HZ.out.free 3
      have q4 := HZ.out.free 4
      simp only [mk, zeroM, List.getD_cons_zero, List.getD_cons_succ, List.getD_nil] at f0 f1 f2 f3 f4
      obtain ⟨A2, n2, c2, hcut, hm1, hm2, hm3, hrd⟩ := cutL A n c p hp hc
      have HT := Lib.hid (fun W (h : RdB W A n xs) => reftake_any A2 n2 c2 (xs.drop p) W (hrd W xs h))
      have HF := Lib.hid (fun W (h : RdB W A n xs) => reffault_any A2 n2 c2 (xs.drop p) W (hrd W xs h))
      have HRw := Lib.hid (HR.out.below HBW.out)
      have hd := dec_len (xs.drop p) (HR.out.2.drop p)
      rw [List.length_drop, HR.out.len] at hd
      obtain ⟨x, hx⟩ : ∃ x, (dec 0 (xs.drop p)).1 = x := ⟨_, rfl⟩
      obtain ⟨q, hq⟩ : ∃ q, (dec 0 (xs.drop p)).2 = q := ⟨_, rfl⟩
      rw [hx, hq] at HT
      rw [hq] at hd
      have HX := Lib.hid hx
      have HQ := Lib.hid hq
      clear hx hq hrd
      by_cases h0 : q = 0
      · have HR0 := Lib.hid ((res_short (f := 4) (zs := []) (by rfl) (HQ.out.trans h0)).symm.trans HE.out)
        subst h0
        clear hd
        go_wp2_with (first | (go_at_call 34; refine (HT.out _ HRw.out).mono ?_; rintro e w' ⟨rfl, rfl⟩) | (go_at_call 35; refine (HF.out _ HRw.out).mono ?_; rintro e w' ⟨rfl, rfl⟩))
        try simp only [Exit.inBlock, Exit.then]
        refine bodyPost_ret_by (results_row2 rfl _ _ w.heap.size 24 (0, 0) _ rfl (((((HZ.out.set0 0).set1 0).set2 0).set3 0).set4 0) Tryd.underlying24 rfl (by kernel_rfl)) rfl ?_
        exact ⟨by rw [← HR0.out]; rfl, below5 HBW.out _ _ _ _ _⟩
      · have HRS := Aside0.mk ((res_step (f := 4) (zs := []) (by rfl) HX.out HQ.out h0).symm.trans HE.out)
        have hqb : ((q : Int) == 0) = false := beq_eq_false_iff_ne.2 (by omega)
        go_wp2_with (first | (go_at_call 34; refine (HT.out _ HRw.out).mono ?_; rintro e w' ⟨rfl, rfl⟩) | (at_builtin; refine appI (w0 := W0) (base := W0.heap.size) rfl (.tmp 38) (.tmp 40) rfl rfl rfl (HO.out.alloc _) (litI wr _ rfl (0, 0) [x] (Nat.le_of_ble_eq_true rfl)) (HB.out.alloc hsr _) ?sA ?lA ?_; (case sA => simp; omega); (case lA => simp); intro A3 n3 c3 w3 ho hb; have HO3 := Lib.hid ho; have HB3 := Lib.hid hb; have hl3 := ho.len; clear ho hb))
        go_roundw
        case rel => exact ⟨[x], p + q, A3, n3, c3, by simp, by omega, rfl, by go_num, HRS, ⟨HO3.out⟩, ⟨HB3.out⟩⟩
        case measure => simp at hl3; subst hl3; simp
    | [z0], _ =>
      have hl2 : 1 = n1 := hl
      subst hl2
      clear hl
      obtain ⟨f0, f1, f2, f3, f4⟩ := HZ.out.box
      have q0 := HZ.out.free 0
      have q1 := HZ.out.free 1
      have q2 := HZ.out.free 2
      have q3 := HZ.out.free 3
      have q4 := HZ.out.free 4
      simp only [mk, zeroM, List.getD_cons_zero, List.getD_cons_succ, List.getD_nil] at f0 f1 f2 f3 f4
      obtain ⟨A2, n2, c2, hcut, hm1, hm2, hm3, hrd⟩ := cutL A n c p hp hc
      have HT := Lib.hid (fun W (h : RdB W A n xs) => reftake_any A2 n2 c2 (xs.drop p) W (hrd W xs h))
      have HF := Lib.hid (fun W (h : RdB W A n xs) => reffault_any A2 n2 c2 (xs.drop p) W (hrd W xs h))
      have HRw := Lib.hid (HR.out.below HBW.out)
      have hd := dec_len (xs.drop p) (HR.out.2.drop p)
      rw [List.length_drop, HR.out.len] at hd
      obtain ⟨x, hx⟩ : ∃ x, (dec 0 (xs.drop p)).1 = x := ⟨_, rfl⟩
      obtain ⟨q, hq⟩ : ∃ q, (dec 0 (xs.drop p)).2 = q := ⟨_, rfl⟩
      rw [hx, hq] at HT
      rw [hq] at hd
      have HX := Lib.hid hx
      have HQ := Lib.hid hq
      clear hx hq hrd
      by_cases h0 : q = 0
      · have HR0 := Lib.hid ((res_short (f := 3) (zs := [z0]) (by rfl) (HQ.out.trans h0)).symm.trans HE.out)
        subst h0
        clear hd
        go_wp2_with (first | (go_at_call 34; refine (HT.out _ HRw.out).mono ?_; rintro e w' ⟨rfl, rfl⟩) | (go_at_call 35; refine (HF.out _ HRw.out).mono ?_; rintro e w' ⟨rfl, rfl⟩))
        try simp only [Exit.inBlock, Exit.then]
        refine bodyPost_ret_by (results_row2 rfl _ _ w.heap.size 24 (0, 0) _ rfl (((((HZ.out.set0 0).set1 0).set2 0).set3 0).set4 0) Tryd.underlying24 rfl (by kernel_rfl)) rfl ?_
        exact ⟨by rw [← HR0.out]; rfl, below5 HBW.out _ _ _ _ _⟩
      · have HRS := Aside0.mk ((res_step (f := 3) (zs := [z0]) (by rfl) HX.out HQ.out h0).symm.trans HE.out)
        have hqb : ((q : Int) == 0) = false := beq_eq_false_iff_ne.2 (by omega)
        go_wp2_with (first | (go_at_call 34; refine (HT.out _ HRw.out).mono ?_; rintro e w' ⟨rfl, rfl⟩) | (at_builtin; refine appI (w0 := W0) (base := W0.heap.size) rfl (.tmp 38) (.tmp 40) rfl rfl rfl (HO.out.alloc _) (litI wr _ rfl (0, 0) [x] (Nat.le_of_ble_eq_true rfl)) (HB.out.alloc hsr _) ?sA ?lA ?_; (case sA => simp; omega); (case lA => simp); intro A3 n3 c3 w3 ho hb; have HO3 := Lib.hid ho; have HB3 := Lib.hid hb; have hl3 := ho.len; clear ho hb))
        go_roundw
        case rel => exact ⟨[z0, x], p + q, A3, n3, c3, by simp, by omega, rfl, by go_num, HRS, ⟨HO3.out⟩, ⟨HB3.out⟩⟩
        case measure => simp at hl3; subst hl3; simp
    | [z0, z1], _ =>
      have hl2 : 2 = n1 := hl
      subst hl2
      clear hl
      obtain ⟨f0, f1, f2, f3, f4⟩ := HZ.out.box
      have q0 := HZ.out.free 0
      have q1 := HZ.out.free 1
      have q2 := HZ.out.free 2
      have q3 := HZ.out.free 3
      have q4 := HZ.out.free 4
      simp only [mk, zeroM, List.getD_cons_zero, List.getD_cons_succ, List.getD_nil] at f0 f1 f2 f3 f4
      obtain ⟨A2, n2, c2, hcut, hm1, hm2, hm3, hrd⟩ := cutL A n c p hp hc
      have HT := Lib.hid (fun W (h : RdB W A n xs) => reftake_any A2 n2 c2 (xs.drop p) W (hrd W xs h))
      have HF := Lib.hid (fun W (h : RdB W A n xs) => reffault_any A2 n2 c2 (xs.drop p) W (hrd W xs h))
      have HRw := Lib.hid (HR.out.below HBW.out)
      have hd := dec_len (xs.drop p) (HR.out.2.drop p)
      rw [List.length_drop, HR.out.len] at hd
      obtain ⟨x, hx⟩ : ∃ x, (dec 0 (xs.drop p)).1 = x := ⟨_, rfl⟩
      obtain ⟨q, hq⟩ : ∃ q, (dec 0 (xs.drop p)).2 = q := ⟨_, rfl⟩
      rw [hx, hq] at HT
      rw [hq] at hd
      have HX := Lib.hid hx
      have HQ := Lib.hid hq
      clear hx hq hrd
      by_cases h0 : q = 0
      · have HR0 := Lib.hid ((res_short (f := 2) (zs := [z0, z1]) (by rfl) (HQ.out.trans h0)).symm.trans HE.out)
        subst h0
        clear hd
        go_wp2_with (first | (go_at_call 34; refine (HT.out _ HRw.out).mono ?_; rintro e w' ⟨rfl, rfl⟩) | (go_at_call 35; refine (HF.out _ HRw.out).mono ?_; rintro e w' ⟨rfl, rfl⟩))
        try simp only [Exit.inBlock, Exit.then]
        refine bodyPost_ret_by (results_row2 rfl _ _ w.heap.size 24 (0, 0) _ rfl (((((HZ.out.set0 0).set1 0).set2 0).set3 0).set4 0) Tryd.underlying24 rfl (by kernel_rfl)) rfl ?_
        exact ⟨by rw [← HR0.out]; rfl, below5 HBW.out _ _ _ _ _⟩
      · have HRS := Aside0.mk ((res_step (f := 2) (zs := [z0, z1]) (by rfl) HX.out HQ.out h0).symm.trans HE.out)
        have hqb : ((q : Int) == 0) = false := beq_eq_false_iff_ne.2 (by omega)
        go_wp2_with (first | (go_at_call 34; refine (HT.out _ HRw.out).mono ?_; rintro e w' ⟨rfl, rfl⟩) | (at_builtin; refine appI (w0 := W0) (base := W0.heap.size) rfl (.tmp 38) (.tmp 40) rfl rfl rfl (HO.out.alloc _) (litI wr _ rfl (0, 0) [x] (Nat.le_of_ble_eq_true rfl)) (HB.out.alloc hsr _) ?sA ?lA ?_; (case sA => simp; omega); (case lA => simp); intro A3 n3 c3 w3 ho hb; have HO3 := Lib.hid ho; have HB3 := Lib.hid hb; have hl3 := ho.len; clear ho hb))
        go_roundw
        case rel => exact ⟨[z0, z1, x], p + q, A3, n3, c3, by simp, by omega, rfl, by go_num, HRS, ⟨HO3.out⟩, ⟨HB3.out⟩⟩
        case measure => simp at hl3; subst hl3; simp
    | [z0, z1, z2], _ =>
      have hl2 : 3 = n1 := hl
      subst hl2
      clear hl
      obtain ⟨f0, f1, f2, f3, f4⟩ := HZ.out.box
      have q0 := HZ.out.free 0
      have q1 := HZ.out.free 1
      have q2 := HZ.out.free 2
      have q3 := HZ.out.free 3
      have q4 := HZ.out.free 4
      simp only [mk, zeroM, List.getD_cons_zero, List.getD_cons_succ, List.getD_nil] at f0 f1 f2 f3 f4
      obtain ⟨A2, n2, c2, hcut, hm1, hm2, hm3, hrd⟩ := cutL A n c p hp hc
      have HT := Lib.hid (fun W (h : RdB W A n xs) => reftake_any A2 n2 c2 (xs.drop p) W (hrd W xs h))
      have HF := Lib.hid (fun W (h : RdB W A n xs) => reffault_any A2 n2 c2 (xs.drop p) W (hrd W xs h))
      have HRw := Lib.hid (HR.out.below HBW.out)
      have hd := dec_len (xs.drop p) (HR.out.2.drop p)
      rw [List.length_drop, HR.out.len] at hd
      obtain ⟨x, hx⟩ : ∃ x, (dec 0 (xs.drop p)).1 = x := ⟨_, rfl⟩
      obtain ⟨q, hq⟩ : ∃ q, (dec 0 (xs.drop p)).2 = q := ⟨_, rfl⟩
      rw [hx, hq] at HT
      rw [hq] at hd
      have HX := Lib.hid hx
      have HQ := Lib.hid hq
      clear hx hq hrd
      by_cases h0 : q = 0
      · have HR0 := Lib.hid ((res_short (f := 1) (zs := [z0, z1, z2]) (by rfl) (HQ.out.trans h0)).symm.trans HE.out)
        subst h0
        clear hd
        go_wp2_with (first | (go_at_call 34; refine (HT.out _ HRw.out).mono ?_; rintro e w' ⟨rfl, rfl⟩) | (go_at_call 35; refine (HF.out _ HRw.out).mono ?_; rintro e w' ⟨rfl, rfl⟩))
        try simp only [Exit.inBlock, Exit.then]
        refine bodyPost_ret_by (results_row2 rfl _ _ w.heap.size 24 (0, 0) _ rfl (((((HZ.out.set0 0).set1 0).set2 0).set3 0).set4 0) Tryd.underlying24 rfl (by kernel_rfl)) rfl ?_
        exact ⟨by rw [← HR0.out]; rfl, below5 HBW.out _ _ _ _ _⟩
      · have HRS := Aside0.mk ((res_step (f := 1) (zs := [z0, z1, z2]) (by rfl) HX.out HQ.out h0).symm.trans HE.out)
        have hqb : ((q : Int) == 0) = false := beq_eq_false_iff_ne.2 (by omega)
        go_wp2_with (first | (go_at_call 34; refine (HT.out _ HRw.out).mono ?_; rintro e w' ⟨rfl, rfl⟩) | (at_builtin; refine appI (w0 := W0) (base := W0.heap.size) rfl (.tmp 38) (.tmp 40) rfl rfl rfl (HO.out.alloc _) (litI wr _ rfl (0, 0) [x] (Nat.le_of_ble_eq_true rfl)) (HB.out.alloc hsr _) ?sA ?lA ?_; (case sA => simp; omega); (case lA => simp); intro A3 n3 c3 w3 ho hb; have HO3 := Lib.hid ho; have HB3 := Lib.hid hb; have hl3 := ho.len; clear ho hb))
        go_roundw
        case rel => exact ⟨[z0, z1, z2, x], p + q, A3, n3, c3, by simp, by omega, rfl, by go_num, HRS, ⟨HO3.out⟩, ⟨HB3.out⟩⟩
        case measure => simp at hl3; subst hl3; simp
    | [z0, z1, z2, z3], _ =>
      have hl2 : 4 = n1 := hl
      subst hl2
      clear hl
      obtain ⟨f0, f1, f2, f3, f4⟩ := HZ.out.box
      have q0 := HZ.out.free 0
      have q1 := HZ.out.free 1
      have q2 := HZ.out.free 2
      have q3 := HZ.out.free 3
      have q4 := HZ.out.free 4
      simp only [mk, zeroM, List.getD_cons_zero, List.getD_cons_succ, List.getD_nil] at f0 f1 f2 f3 f4
      obtain ⟨g, rfl, hg0⟩ := HO.out.at_ 0 (by decide)
      simp only [List.getD_cons_zero] at hg0
      by_cases h4 : z0 = 4
      · subst h4
        obtain ⟨A2, n2, c2, hcut, hm1, hm2, hm3, hrd⟩ := cutL A n c p hp hc
        have HT := Lib.hid (fun W (h : RdB W A n xs) => reftake_any A2 n2 c2 (xs.drop p) W (hrd W xs h))
        have HF := Lib.hid (fun W (h : RdB W A n xs) => reffault_any A2 n2 c2 (xs.drop p) W (hrd W xs h))
        have HRw := Lib.hid (HR.out.below HBW.out)
        have hd := dec_len (xs.drop p) (HR.out.2.drop p)
        rw [List.length_drop, HR.out.len] at hd
        obtain ⟨x, hx⟩ : ∃ x, (dec 0 (xs.drop p)).1 = x := ⟨_, rfl⟩
        obtain ⟨q, hq⟩ : ∃ q, (dec 0 (xs.drop p)).2 = q := ⟨_, rfl⟩
        rw [hx, hq] at HT
        rw [hq] at hd
        have HX := Lib.hid hx
        have HQ := Lib.hid hq
        clear hx hq hrd
        by_cases h0 : q = 0
        · have HR0 := Lib.hid ((res_short (f := 0) (zs := [4, z1, z2, z3]) (by rfl) (HQ.out.trans h0)).symm.trans HE.out)
          subst h0
          clear hd
          go_wp2_with (first | (go_at_call 34; refine (HT.out _ HRw.out).mono ?_; rintro e w' ⟨rfl, rfl⟩) | (go_at_call 35; refine (HF.out _ HRw.out).mono ?_; rintro e w' ⟨rfl, rfl⟩))
          try simp only [Exit.inBlock, Exit.then]
          refine bodyPost_ret_by (results_row2 rfl _ _ w.heap.size 24 (0, 0) _ rfl (((((HZ.out.set0 0).set1 0).set2 0).set3 0).set4 0) Tryd.underlying24 rfl (by kernel_rfl)) rfl ?_
          exact ⟨by rw [← HR0.out]; rfl, below5 HBW.out _ _ _ _ _⟩
        · have HRS := Aside0.mk ((res_step (f := 0) (zs := [4, z1, z2, z3]) (by rfl) HX.out HQ.out h0).symm.trans HE.out)
          have hqb : ((q : Int) == 0) = false := beq_eq_false_iff_ne.2 (by omega)
          go_wp2_with (first | (go_at_call 34; refine (HT.out _ HRw.out).mono ?_; rintro e w' ⟨rfl, rfl⟩) | (at_builtin; refine appI (w0 := W0) (base := W0.heap.size) rfl (.tmp 38) (.tmp 40) rfl rfl rfl (HO.out.alloc _) (litI wr _ rfl (0, 0) [x] (Nat.le_of_ble_eq_true rfl)) (HB.out.alloc hsr _) ?sA ?lA ?_; (case sA => simp; omega); (case lA => simp); intro A3 n3 c3 w3 ho hb; have HO3 := Lib.hid ho; have HB3 := Lib.hid hb; have hl3 := ho.len; clear ho hb))
          go_roundw
          case rel => exact ⟨[4, z1, z2, z3, x], p + q, A3, n3, c3, by simp, by omega, rfl, by go_num, HRS, ⟨HO3.out⟩, ⟨HB3.out⟩⟩
          case measure => simp at hl3; subst hl3; simp
      · have h4b : (z0 == 4) = false := beq_eq_false_iff_ne.2 h4
        have NM : Hid (more [z0, z1, z2, z3] = false) := Lib.hid (by unfold more; simp [h4b])
        obtain ⟨_, hgg, hg1⟩ := HO.out.at_ 1 (by decide)
        cases hgg
        obtain ⟨_, hgg, hg2⟩ := HO.out.at_ 2 (by decide)
        cases hgg
        obtain ⟨_, hgg, hg3⟩ := HO.out.at_ 3 (by decide)
        cases hgg
        obtain ⟨_, hgg, hk0⟩ := (HO.out.alloc (.cells #[.int .i64 0, .int .i64 0, .int .i64 0, .int .i64 0, .int .i64 0] 24)).at_ 0 (by decide)
        cases hgg
        obtain ⟨_, hgg, hk1⟩ := (HO.out.alloc (.cells #[.int .i64 0, .int .i64 0, .int .i64 0, .int .i64 0, .int .i64 0] 24)).at_ 1 (by decide)
        cases hgg
        obtain ⟨_, hgg, hk2⟩ := (HO.out.alloc (.cells #[.int .i64 0, .int .i64 0, .int .i64 0, .int .i64 0, .int .i64 0] 24)).at_ 2 (by decide)
        cases hgg
        obtain ⟨_, hgg, hk3⟩ := (HO.out.alloc (.cells #[.int .i64 0, .int .i64 0, .int .i64 0, .int .i64 0, .int .i64 0] 24)).at_ 3 (by decide)
        cases hgg
        simp only [List.getD_cons_zero, List.getD_cons_succ] at hg0 hg1 hg2 hg3 hk0 hk1 hk2 hk3
        have hgl := World.block_lt_of_cell? _ _ hg0
        dsimp only at hgl
        have HN1 := Lib.hid ((BoxH.new wr wr.heap.size rfl z0 z1 z2 z3 0).below (Below.refl _ _).drew)
        have HZ1 := Lib.hid (HZ.out.below ((Below.refl wr.heap.size wr).alloc (Nat.le_refl _) (.cells #[.int .i64 z0, .int .i64 z1, .int .i64 z2, .int .i64 z3, .int .i64 0] 24)).drew)
        have hsw : w.heap.size < wr.heap.size := Nat.lt_of_lt_of_le hs0 hsr
        have HB1 := Lib.hid ((HBW.out.alloc (Nat.le_of_lt hsw) (.cells #[.int .i64 z0, .int .i64 z1, .int .i64 z2, .int .i64 z3, .int .i64 0] 24)).drew)
        go_wp2_with fail
        go_region
        generalize (wr.alloc (.cells #[.int .i64 z0, .int .i64 z1, .int .i64 z2, .int .i64 z3, .int .i64 0] 24)).drew = W1 at HN1 HZ1 HB1 ⊢
        clear hg0 hg1 hg2 hg3 hk0 hk1 hk2 hk3
        have HNv := HN1
        have HZv := HZ1
        have HBv := HB1
        obtain ⟨Wv, hWv⟩ : ∃ Wv, Wv = W1 := ⟨_, rfl⟩
        rw [← hWv] at HNv HZv HBv ⊢
        clear hWv HN1 HZ1 HB1
        have HNv : Hid (BoxH Wv wr.heap.size (mk [z0, z1, z2, z3])) := HNv
        have HE2 : Hid (fin [z0, z1, z2, z3] p = takeM xs) := Lib.hid ((res_fin (f := 1) (zs := [z0, z1, z2, z3]) NM.out).symm.trans HE.out)
        have HV := Lib.hid (refvalid_any (mk [z0, z1, z2, z3]) Wv)
        obtain ⟨i0, i1, i2, i3, i4⟩ := HNv.out.box
        simp only [mk, List.getD_cons_zero, List.getD_cons_succ, List.getD_nil] at i0 i1 i2 i3 i4
        cases hv : (mk [z0, z1, z2, z3]).valid
        · have HR0 := Lib.hid ((fin_bad hv).symm.trans HE2.out)
          rw [hv] at HV
          go_wp2_with fail
          refine HV.out.mono ?_
          rintro e w3 ⟨rfl, hb⟩
          have HZ3 := Lib.hid (HZv.out.below hb)
          have HN3 := Lib.hid (HNv.out.below hb)
          have HB3 := Lib.hid (HBv.out.trans (hb.mono HBv.out.size))
          obtain ⟨f0, f1, f2, f3, f4⟩ := HZ3.out.box
          have q0 := HZ3.out.free 0
          have q1 := HZ3.out.free 1
          have q2 := HZ3.out.free 2
          have q3 := HZ3.out.free 3
          have q4 := HZ3.out.free 4
          obtain ⟨i0, i1, i2, i3, i4⟩ := HN3.out.box
          simp only [mk, zeroM, List.getD_cons_zero, List.getD_cons_succ, List.getD_nil] at f0 f1 f2 f3 f4 i0 i1 i2 i3 i4
          clear hb
          go_wp2
          try simp only [Exit.inBlock, Exit.then]
          refine bodyPost_ret_by (results_row2 rfl _ _ w.heap.size 24 (0, 0) _ rfl (((((HZ3.out.set0 0).set1 0).set2 0).set3 0).set4 0) Tryd.underlying24 rfl (by kernel_rfl)) rfl ?_
          exact ⟨by rw [← HR0.out]; rfl, below5 HB3.out _ _ _ _ _⟩
        · have HR0 := Lib.hid ((fin_good hv).symm.trans HE2.out)
          rw [hv] at HV
          go_wp2_with fail
          refine HV.out.mono ?_
          rintro e w3 ⟨rfl, hb⟩
          have HZ3 := Lib.hid (HZv.out.below hb)
          have HN3 := Lib.hid (HNv.out.below hb)
          have HB3 := Lib.hid (HBv.out.trans (hb.mono HBv.out.size))
          obtain ⟨f0, f1, f2, f3, f4⟩ := HZ3.out.box
          have q0 := HZ3.out.free 0
          have q1 := HZ3.out.free 1
          have q2 := HZ3.out.free 2
          have q3 := HZ3.out.free 3
          have q4 := HZ3.out.free 4
          obtain ⟨i0, i1, i2, i3, i4⟩ := HN3.out.box
          simp only [mk, zeroM, List.getD_cons_zero, List.getD_cons_succ, List.getD_nil] at f0 f1 f2 f3 f4 i0 i1 i2 i3 i4
          clear hb
          go_wp2
          try simp only [Exit.inBlock, Exit.then]
          refine bodyPost_ret_by (results_row2 rfl _ _ w.heap.size 24 (0, 0) _ rfl (((((HZ3.out.set0 z0).set1 z1).set2 z2).set3 z3).set4 0) Tryd.underlying24 rfl (by kernel_rfl)) rfl ?_
          exact ⟨by rw [← HR0.out]; rfl, below5 HB3.out _ _ _ _ _⟩
    | [z0, z1, z2, z3, z4], _ =>
      have hl2 : 5 = n1 := hl
      subst hl2
      clear hl
      obtain ⟨g, rfl, hg0⟩ := HO.out.at_ 0 (by decide)
      obtain ⟨_, hgg, hg1⟩ := HO.out.at_ 1 (by decide)
      cases hgg
      obtain ⟨_, hgg, hg2⟩ := HO.out.at_ 2 (by decide)
      cases hgg
      obtain ⟨_, hgg, hg3⟩ := HO.out.at_ 3 (by decide)
      cases hgg
      obtain ⟨_, hgg, hg4⟩ := HO.out.at_ 4 (by decide)
      cases hgg
      obtain ⟨_, hgg, hk0⟩ := (HO.out.alloc (.cells #[.int .i64 0, .int .i64 0, .int .i64 0, .int .i64 0, .int .i64 0] 24)).at_ 0 (by decide)
      cases hgg
      obtain ⟨_, hgg, hk1⟩ := (HO.out.alloc (.cells #[.int .i64 0, .int .i64 0, .int .i64 0, .int .i64 0, .int .i64 0] 24)).at_ 1 (by decide)
      cases hgg
      obtain ⟨_, hgg, hk2⟩ := (HO.out.alloc (.cells #[.int .i64 0, .int .i64 0, .int .i64 0, .int .i64 0, .int .i64 0] 24)).at_ 2 (by decide)
      cases hgg
      obtain ⟨_, hgg, hk3⟩ := (HO.out.alloc (.cells #[.int .i64 0, .int .i64 0, .int .i64 0, .int .i64 0, .int .i64 0] 24)).at_ 3 (by decide)
      cases hgg
      obtain ⟨_, hgg, hk4⟩ := (HO.out.alloc (.cells #[.int .i64 0, .int .i64 0, .int .i64 0, .int .i64 0, .int .i64 0] 24)).at_ 4 (by decide)
      cases hgg
      obtain ⟨_, hgg, hj4⟩ := (HO.out.below ((Below.refl wr.heap.size wr).alloc (Nat.le_refl _) (.cells #[.int .i64 z0, .int .i64 z1, .int .i64 z2, .int .i64 z3, .int .i64 0] 24)).drew).at_ 4 (by decide)
      cases hgg
      simp only [List.getD_cons_zero, List.getD_cons_succ] at hg0 hg1 hg2 hg3 hg4 hk0 hk1 hk2 hk3 hk4 hj4
      have hgl := World.block_lt_of_cell? _ _ hg0
      dsimp only at hgl
      have HN1 := Lib.hid ((BoxH.new wr wr.heap.size rfl z0 z1 z2 z3 0).below (Below.refl _ _).drew)
      have HZ1 := Lib.hid (HZ.out.below ((Below.refl wr.heap.size wr).alloc (Nat.le_refl _) (.cells #[.int .i64 z0, .int .i64 z1, .int .i64 z2, .int .i64 z3, .int .i64 0] 24)).drew)
      have hsw : w.heap.size < wr.heap.size := Nat.lt_of_lt_of_le hs0 hsr
      have HB1 := Lib.hid ((HBW.out.alloc (Nat.le_of_lt hsw) (.cells #[.int .i64 z0, .int .i64 z1, .int .i64 z2, .int .i64 z3, .int .i64 0] 24)).drew)
      go_wp2_with fail
      go_region
      generalize (wr.alloc (.cells #[.int .i64 z0, .int .i64 z1, .int .i64 z2, .int .i64 z3, .int .i64 0] 24)).drew = W1 at HN1 HZ1 HB1 hj4 ⊢
      clear hg0 hg1 hg2 hg3 hg4 hk0 hk1 hk2 hk3 hk4
      obtain ⟨e0, e1, e2, e3, e4⟩ := HN1.out.box
      have m4 := HN1.out.free 4
      have HNv := Lib.hid (HN1.out.set4 z4)
      have HZv := Lib.hid (HZ1.out.other (b' := wr.heap.size) (by omega) 4 (.int .i64 z4))
      have HBv := Lib.hid (HB1.out.setCell (p := ⟨wr.heap.size, 4, none⟩) (Nat.le_of_lt hsw) (.int .i64 z4))
      dsimp only at e0 e1 e2 e3 e4
      obtain ⟨Wv, hWv⟩ : ∃ Wv, Wv = W1.setCell ⟨wr.heap.size, 4, none⟩ (.int .i64 z4) := ⟨_, rfl⟩
      rw [← hWv] at HNv HZv HBv
      have HNv : Hid (BoxH Wv wr.heap.size (mk [z0, z1, z2, z3, z4])) := HNv
      have HE2 : Hid (fin [z0, z1, z2, z3, z4] p = takeM xs) := Lib.hid ((res_fin (f := 0) (zs := [z0, z1, z2, z3, z4]) (by rfl)).symm.trans HE.out)
      have HV := Lib.hid (refvalid_any (mk [z0, z1, z2, z3, z4]) Wv)
      obtain ⟨i0, i1, i2, i3, i4⟩ := HNv.out.box
      simp only [mk, List.getD_cons_zero, List.getD_cons_succ, List.getD_nil] at i0 i1 i2 i3 i4
      cases hv : (mk [z0, z1, z2, z3, z4]).valid
      · have HR0 := Lib.hid ((fin_bad hv).symm.trans HE2.out)
        rw [hv] at HV
        go_wp2_with fail
        try rw [← hWv]
        refine HV.out.mono ?_
        rintro e w3 ⟨rfl, hb⟩
        have HZ3 := Lib.hid (HZv.out.below hb)
        have HN3 := Lib.hid (HNv.out.below hb)
        have HB3 := Lib.hid (HBv.out.trans (hb.mono HBv.out.size))
        obtain ⟨f0, f1, f2, f3, f4⟩ := HZ3.out.box
        have q0 := HZ3.out.free 0
        have q1 := HZ3.out.free 1
        have q2 := HZ3.out.free 2
        have q3 := HZ3.out.free 3
        have q4 := HZ3.out.free 4
        obtain ⟨i0, i1, i2, i3, i4⟩ := HN3.out.box
        simp only [mk, zeroM, List.getD_cons_zero, List.getD_cons_succ, List.getD_nil] at f0 f1 f2 f3 f4 i0 i1 i2 i3 i4
        clear hb
        go_wp2
        try simp only [Exit.inBlock, Exit.then]
        refine bodyPost_ret_by (results_row2 rfl _ _ w.heap.size 24 (0, 0) _ rfl (((((HZ3.out.set0 0).set1 0).set2 0).set3 0).set4 0) Tryd.underlying24 rfl (by kernel_rfl)) rfl ?_
        exact ⟨by rw [← HR0.out]; rfl, below5 HB3.out _ _ _ _ _⟩
      · have HR0 := Lib.hid ((fin_good hv).symm.trans HE2.out)
        rw [hv] at HV
        go_wp2_with fail
        try rw [← hWv]
        refine HV.out.mono ?_
        rintro e w3 ⟨rfl, hb⟩
        have HZ3 := Lib.hid (HZv.out.below hb)
        have HN3 := Lib.hid (HNv.out.below hb)
        have HB3 := Lib.hid (HBv.out.trans (hb.mono HBv.out.size))
        obtain ⟨f0, f1, f2, f3, f4⟩ := HZ3.out.box
        have q0 := HZ3.out.free 0
        have q1 := HZ3.out.free 1
        have q2 := HZ3.out.free 2
        have q3 := HZ3.out.free 3
        have q4 := HZ3.out.free 4
        obtain ⟨i0, i1, i2, i3, i4⟩ := HN3.out.box
        simp only [mk, zeroM, List.getD_cons_zero, List.getD_cons_succ, List.getD_nil] at f0 f1 f2 f3 f4 i0 i1 i2 i3 i4
        clear hb
        go_wp2
        try simp only [Exit.inBlock, Exit.then]
        refine bodyPost_ret_by (results_row2 rfl _ _ w.heap.size 24 (0, 0) _ rfl (((((HZ3.out.set0 z0).set1 z1).set2 z2).set3 z3).set4 z4) Tryd.underlying24 rfl (by kernel_rfl)) rfl ?_
        exact ⟨by rw [← HR0.out]; rfl, below5 HB3.out _ _ _ _ _⟩
end Go.Proofs.YtobkcedmjeidfaaDoor.takew
