/- What the reference's Take of a datagram computes. -/
import Derived.Test.YtobkcedmjeidfaaDoorGTakePure
import Derived.Test.YtobkcedmjeidfaaDoorMemI
set_option linter.unusedVariables false
set_option linter.unusedSimpArgs false
namespace Go.Proofs.YtobkcedmjeidfaaDoor.gtake
open Go.RowKit Go.Proofs.YtobkcedmjeidfaaDoorW.PrintWords Go.Proofs.YtobkcedmjeidfaaDoor.base Go.Proofs.YtobkcedmjeidfaaDoor.mem Go.Proofs.YtobkcedmjeidfaaDoor.packp Go.Proofs.YtobkcedmjeidfaaDoor.packw Go.Proofs.YtobkcedmjeidfaaDoor.samew Go.Proofs.YtobkcedmjeidfaaDoor.wirep Go.Proofs.YtobkcedmjeidfaaDoor.wirew Go.Proofs.YtobkcedmjeidfaaDoor.takew Go.Proofs.YtobkcedmjeidfaaDoor.gramp Go.Proofs.YtobkcedmjeidfaaDoor.gramw

theorem below5c {w wr : World} {b b' : Nat} (hb' : b ≤ b') (h : Below b w wr) (hs : b ≤ wr.heap.size) (v4 v5 v6 v7 v8 : Value) (o : Obj) : Below b w ((((((wr.setCell ⟨b', 4, none⟩ v4).setCell ⟨b', 5, none⟩ v5).setCell ⟨b', 6, none⟩ v6).setCell ⟨b', 7, none⟩ v7).setCell ⟨b', 8, none⟩ v8).alloc o) :=
  have hp : ∀ i, b ≤ (⟨b', i, none⟩ : Addr).block := fun _ => hb'
  have k := (((((h.setCell (hp 4) v4).setCell (hp 5) v5).setCell (hp 6) v6).setCell (hp 7) v7).setCell (hp 8) v8)
  k.alloc (by simpa [World.setCell] using hs) o
set_option maxHeartbeats 4000000 in
set_option maxRecDepth 100000 in
theorem refgtake_any (A : Option Addr) (n c : Nat) (xs : List Int) (w : World) (hr : RdB w A n xs) (hc : n ≤ c) :
    Calls Tryd.prog 18 #[.slice A n c] w fun e w' => e = .returned (GRes.val (takeG xs)) ∧ Below w.heap.size w w' := by
  have HR := Lib.hid hr
  have hn := hr.max
  have HI : Hid (RowH (w.alloc (.cells #[.int .i64 0, .int .i64 0, .int .i64 0, .int .i64 0, .int .i64 0, .int .i64 0, .int .i64 0, .int .i64 0, .int .i64 0] 26)) w.heap.size [0, 0, 0, 0, 0, 0, 0, 0, 0]) := Lib.hid (RowH.new w w.heap.size rfl [0, 0, 0, 0, 0, 0, 0, 0, 0])
  have HBI := Lib.hid (below_alloc (Below.refl w.heap.size w) (.cells #[.int .i64 0, .int .i64 0, .int .i64 0, .int .i64 0, .int .i64 0, .int .i64 0, .int .i64 0, .int .i64 0, .int .i64 0] 26))
  have hs0 : w.heap.size < (w.alloc (.cells #[.int .i64 0, .int .i64 0, .int .i64 0, .int .i64 0, .int .i64 0, .int .i64 0, .int .i64 0, .int .i64 0, .int .i64 0] 26)).heap.size := by simp
  clear hr
  go_enter Tryd.func18, Tryd.ntmps18
  go_wp2
  generalize w.alloc (.cells #[.int .i64 0, .int .i64 0, .int .i64 0, .int .i64 0, .int .i64 0, .int .i64 0, .int .i64 0, .int .i64 0, .int .i64 0] 26) = W0 at HI HBI hs0 ⊢
  go_loopw [5, 6] (fun nv at_ wr => ∃ (zs : List Int) (p : Nat) (A1 : Option Addr) (n1 c1 : Nat), zs.length ≤ 4 ∧ p ≤ n ∧ nv = .slice A1 n1 c1 ∧ at_ = .int .i64 p ∧ Aside0 (gres xs (4 - zs.length) zs p = takeG xs) ∧ Aside0 (OwI wr W0.heap.size A1 n1 c1 zs) ∧ Aside0 (Below W0.heap.size W0 wr)) (fun nv _ _ => 4 - (match nv with | .slice _ k _ => k | _ => 0))
  case atStart => exact ⟨[], 0, none, 0, 0, by simp, by omega, rfl, rfl, ⟨rfl⟩, ⟨OwI.nil _ _⟩, ⟨Below.refl _ _⟩⟩
  case round =>
    obtain ⟨zs, p, A1, n1, c1, hz, hp, rfl, rfl, HE, HO, HB⟩ := hrel
    have HZ := Lib.hid (HI.out.below HB.out)
    have HBW := Lib.hid (HBI.out.trans (HB.out.mono (Nat.le_of_lt hs0)))
    have hsr := HB.out.size
    have hl := HO.out.len
    match zs, hz with
    | [], _ =>
      have hl2 : 0 = n1 := hl
      subst hl2
      clear hl
      have f0 := HZ.out.cell 0 (by simp)
      have q0 := HZ.out.free 0
      have f1 := HZ.out.cell 1 (by simp)
      have q1 := HZ.out.free 1
      have f2 := HZ.out.cell 2 (by simp)
      have q2 := HZ.out.free 2
      have f3 := HZ.out.cell 3 (by simp)
      have q3 := HZ.out.free 3
      have f4 := HZ.out.cell 4 (by simp)
      have q4 := HZ.out.free 4
      have f5 := HZ.out.cell 5 (by simp)
      have q5 := HZ.out.free 5
      have f6 := HZ.out.cell 6 (by simp)
      have q6 := HZ.out.free 6
      have f7 := HZ.out.cell 7 (by simp)
      have q7 := HZ.out.free 7
      have f8 := HZ.out.cell 8 (by simp)
      have q8 := HZ.out.free 8
      simp only [List.getD_cons_zero, List.getD_cons_succ, List.getD_nil] at f0 f1 f2 f3 f4 f5 f6 f7 f8
      obtain ⟨A2, n2, c2, hcut, hm1, hm2, hm3, hrd⟩ := cutL A n c p hp hc
      have HT := Lib.hid (fun W (h : RdB W A n xs) => reftake_any A2 n2 c2 (xs.drop p) W (hrd W xs h))
      have HF := Lib.hid (fun W (h : RdB W A n xs) => reffault_any A2 n2 c2 (xs.drop p) W (hrd W xs h))
      have HRw := Lib.hid (HR.out.below HBW.out)
      have hd := dec_len (xs.drop p) (HR.out.2.drop p)
      rw [List.length_drop, HR.out.len] at hd
      obtain ⟨x, hx⟩ : ∃ x, (dec 0 (xs.drop p)).1 = x := ⟨_, rfl⟩
      obtain ⟨q, hq⟩ : ∃ q, (dec 0 (xs.drop p)).2 = q := ⟨_, rfl⟩
      rw [hx, hq] at HT
      rw [hq] at hd
      have HX := Lib.hid hx
      have HQ := Lib.hid hq
      clear hx hq hrd
      by_cases h0 : q = 0
      · have HR0 := Lib.hid ((gres_short (f := 3) (zs := []) (HQ.out.trans h0)).symm.trans HE.out)
        subst h0
        clear hd
        go_wp2_with (first | (go_at_call 34; refine (HT.out _ HRw.out).mono ?_; rintro e w' ⟨rfl, rfl⟩) | (go_at_call 35; refine (HF.out _ HRw.out).mono ?_; rintro e w' ⟨rfl, rfl⟩))
        try simp only [Exit.inBlock, Exit.then]
        refine bodyPost_ret_by (results_row2 rfl _ _ w.heap.size 26 (0, 0) _ rfl (HZ.out.all 0 0 0 0 0 0 0 0 0 rfl) Tryd.underlying26 rfl (by kernel_rfl)) rfl ?_
        exact ⟨by rw [← HR0.out]; rfl, below9 HBW.out _ _ _ _ _ _ _ _ _⟩
      · have HRS := Aside0.mk ((gres_step (f := 3) (zs := []) HX.out HQ.out h0).symm.trans HE.out)
        have hqb : ((q : Int) == 0) = false := beq_eq_false_iff_ne.2 (by omega)
        go_wp2_with (first | (go_at_call 34; refine (HT.out _ HRw.out).mono ?_; rintro e w' ⟨rfl, rfl⟩) | (at_builtin; refine appI (w0 := W0) (base := W0.heap.size) rfl (.tmp 30) (.tmp 32) rfl rfl rfl (HO.out.alloc _) (litI wr _ rfl (0, 0) [x] (Nat.le_of_ble_eq_true rfl)) (HB.out.alloc hsr _) ?sA ?lA ?_; (case sA => simp; omega); (case lA => simp); intro A3 n3 c3 w3 ho hb; have HO3 := Lib.hid ho; have HB3 := Lib.hid hb; have hl3 := ho.len; clear ho hb))
        go_roundw
        case rel => exact ⟨[x], p + q, A3, n3, c3, by simp, by omega, rfl, by go_num, HRS, ⟨HO3.out⟩, ⟨HB3.out⟩⟩
        case measure => simp at hl3; subst hl3; simp
    | [z0], _ =>
      have hl2 : 1 = n1 := hl
      subst hl2
      clear hl
      have f0 := HZ.out.cell 0 (by simp)
      have q0 := HZ.out.free 0
      have f1 := HZ.out.cell 1 (by simp)
      have q1 := HZ.out.free 1
      have f2 := HZ.out.cell 2 (by simp)
      have q2 := HZ.out.free 2
      have f3 := HZ.out.cell 3 (by simp)
      have q3 := HZ.out.free 3
      have f4 := HZ.out.cell 4 (by simp)
      have q4 := HZ.out.free 4
      have f5 := HZ.out.cell 5 (by simp)
      have q5 := HZ.out.free 5
      have f6 := HZ.out.cell 6 (by simp)
      have q6 := HZ.out.free 6
      have f7 := HZ.out.cell 7 (by simp)
      have q7 := HZ.out.free 7
      have f8 := HZ.out.cell 8 (by simp)
      have q8 := HZ.out.free 8
      simp only [List.getD_cons_zero, List.getD_cons_succ, List.getD_nil] at f0 f1 f2 f3 f4 f5 f6 f7 f8
      obtain ⟨A2, n2, c2, hcut, hm1, hm2, hm3, hrd⟩ := cutL A n c p hp hc
      have HT := Lib.hid (fun W (h : RdB W A n xs) => reftake_any A2 n2 c2 (xs.drop p) W (hrd W xs h))
      have HF := Lib.hid (fun W (h : RdB W A n xs) => reffault_any A2 n2 c2 (xs.drop p) W (hrd W xs h))
      have HRw := Lib.hid (HR.out.below HBW.out)
      have hd := dec_len (xs.drop p) (HR.out.2.drop p)
      rw [List.length_drop, HR.out.len] at hd
      obtain ⟨x, hx⟩ : ∃ x, (dec 0 (xs.drop p)).1 = x := ⟨_, rfl⟩
      obtain ⟨q, hq⟩ : ∃ q, (dec 0 (xs.drop p)).2 = q := ⟨_, rfl⟩
      rw [hx, hq] at HT
      rw [hq] at hd
      have HX := Lib.hid hx
      have HQ := Lib.hid hq
      clear hx hq hrd
      by_cases h0 : q = 0
      · have HR0 := Lib.hid ((gres_short (f := 2) (zs := [z0]) (HQ.out.trans h0)).symm.trans HE.out)
        subst h0
        clear hd
        go_wp2_with (first | (go_at_call 34; refine (HT.out _ HRw.out).mono ?_; rintro e w' ⟨rfl, rfl⟩) | (go_at_call 35; refine (HF.out _ HRw.out).mono ?_; rintro e w' ⟨rfl, rfl⟩))
        try simp only [Exit.inBlock, Exit.then]
        refine bodyPost_ret_by (results_row2 rfl _ _ w.heap.size 26 (0, 0) _ rfl (HZ.out.all 0 0 0 0 0 0 0 0 0 rfl) Tryd.underlying26 rfl (by kernel_rfl)) rfl ?_
        exact ⟨by rw [← HR0.out]; rfl, below9 HBW.out _ _ _ _ _ _ _ _ _⟩
      · have HRS := Aside0.mk ((gres_step (f := 2) (zs := [z0]) HX.out HQ.out h0).symm.trans HE.out)
        have hqb : ((q : Int) == 0) = false := beq_eq_false_iff_ne.2 (by omega)
        go_wp2_with (first | (go_at_call 34; refine (HT.out _ HRw.out).mono ?_; rintro e w' ⟨rfl, rfl⟩) | (at_builtin; refine appI (w0 := W0) (base := W0.heap.size) rfl (.tmp 30) (.tmp 32) rfl rfl rfl (HO.out.alloc _) (litI wr _ rfl (0, 0) [x] (Nat.le_of_ble_eq_true rfl)) (HB.out.alloc hsr _) ?sA ?lA ?_; (case sA => simp; omega); (case lA => simp); intro A3 n3 c3 w3 ho hb; have HO3 := Lib.hid ho; have HB3 := Lib.hid hb; have hl3 := ho.len; clear ho hb))
        go_roundw
        case rel => exact ⟨[z0, x], p + q, A3, n3, c3, by simp, by omega, rfl, by go_num, HRS, ⟨HO3.out⟩, ⟨HB3.out⟩⟩
        case measure => simp at hl3; subst hl3; simp
    | [z0, z1], _ =>
      have hl2 : 2 = n1 := hl
      subst hl2
      clear hl
      have f0 := HZ.out.cell 0 (by simp)
      have q0 := HZ.out.free 0
      have f1 := HZ.out.cell 1 (by simp)
      have q1 := HZ.out.free 1
      have f2 := HZ.out.cell 2 (by simp)
      have q2 := HZ.out.free 2
      have f3 := HZ.out.cell 3 (by simp)
      have q3 := HZ.out.free 3
      have f4 := HZ.out.cell 4 (by simp)
      have q4 := HZ.out.free 4
      have f5 := HZ.out.cell 5 (by simp)
      have q5 := HZ.out.free 5
      have f6 := HZ.out.cell 6 (by simp)
      have q6 := HZ.out.free 6
      have f7 := HZ.out.cell 7 (by simp)
      have q7 := HZ.out.free 7
      have f8 := HZ.out.cell 8 (by simp)
      have q8 := HZ.out.free 8
      simp only [List.getD_cons_zero, List.getD_cons_succ, List.getD_nil] at f0 f1 f2 f3 f4 f5 f6 f7 f8
      obtain ⟨A2, n2, c2, hcut, hm1, hm2, hm3, hrd⟩ := cutL A n c p hp hc
      have HT := Lib.hid (fun W (h : RdB W A n xs) => reftake_any A2 n2 c2 (xs.drop p) W (hrd W xs h))
      have HF := Lib.hid (fun W (h : RdB W A n xs) => reffault_any A2 n2 c2 (xs.drop p) W (hrd W xs h))
      have HRw := Lib.hid (HR.out.below HBW.out)
      have hd := dec_len (xs.drop p) (HR.out.2.drop p)
      rw [List.length_drop, HR.out.len] at hd
      obtain ⟨x, hx⟩ : ∃ x, (dec 0 (xs.drop p)).1 = x := ⟨_, rfl⟩
      obtain ⟨q, hq⟩ : ∃ q, (dec 0 (xs.drop p)).2 = q := ⟨_, rfl⟩
      rw [hx, hq] at HT
      rw [hq] at hd
      have HX := Lib.hid hx
      have HQ := Lib.hid hq
      clear hx hq hrd
      by_cases h0 : q = 0
      · have HR0 := Lib.hid ((gres_short (f := 1) (zs := [z0, z1]) (HQ.out.trans h0)).symm.trans HE.out)
        subst h0
        clear hd
        go_wp2_with (first | (go_at_call 34; refine (HT.out _ HRw.out).mono ?_; rintro e w' ⟨rfl, rfl⟩) | (go_at_call 35; refine (HF.out _ HRw.out).mono ?_; rintro e w' ⟨rfl, rfl⟩))
        try simp only [Exit.inBlock, Exit.then]
        refine bodyPost_ret_by (results_row2 rfl _ _ w.heap.size 26 (0, 0) _ rfl (HZ.out.all 0 0 0 0 0 0 0 0 0 rfl) Tryd.underlying26 rfl (by kernel_rfl)) rfl ?_
        exact ⟨by rw [← HR0.out]; rfl, below9 HBW.out _ _ _ _ _ _ _ _ _⟩
      · have HRS := Aside0.mk ((gres_step (f := 1) (zs := [z0, z1]) HX.out HQ.out h0).symm.trans HE.out)
        have hqb : ((q : Int) == 0) = false := beq_eq_false_iff_ne.2 (by omega)
        go_wp2_with (first | (go_at_call 34; refine (HT.out _ HRw.out).mono ?_; rintro e w' ⟨rfl, rfl⟩) | (at_builtin; refine appI (w0 := W0) (base := W0.heap.size) rfl (.tmp 30) (.tmp 32) rfl rfl rfl (HO.out.alloc _) (litI wr _ rfl (0, 0) [x] (Nat.le_of_ble_eq_true rfl)) (HB.out.alloc hsr _) ?sA ?lA ?_; (case sA => simp; omega); (case lA => simp); intro A3 n3 c3 w3 ho hb; have HO3 := Lib.hid ho; have HB3 := Lib.hid hb; have hl3 := ho.len; clear ho hb))
        go_roundw
        case rel => exact ⟨[z0, z1, x], p + q, A3, n3, c3, by simp, by omega, rfl, by go_num, HRS, ⟨HO3.out⟩, ⟨HB3.out⟩⟩
        case measure => simp at hl3; subst hl3; simp
    | [z0, z1, z2], _ =>
      have hl2 : 3 = n1 := hl
      subst hl2
      clear hl
      have f0 := HZ.out.cell 0 (by simp)
      have q0 := HZ.out.free 0
      have f1 := HZ.out.cell 1 (by simp)
      have q1 := HZ.out.free 1
      have f2 := HZ.out.cell 2 (by simp)
      have q2 := HZ.out.free 2
      have f3 := HZ.out.cell 3 (by simp)
      have q3 := HZ.out.free 3
      have f4 := HZ.out.cell 4 (by simp)
      have q4 := HZ.out.free 4
      have f5 := HZ.out.cell 5 (by simp)
      have q5 := HZ.out.free 5
      have f6 := HZ.out.cell 6 (by simp)
      have q6 := HZ.out.free 6
      have f7 := HZ.out.cell 7 (by simp)
      have q7 := HZ.out.free 7
      have f8 := HZ.out.cell 8 (by simp)
      have q8 := HZ.out.free 8
      simp only [List.getD_cons_zero, List.getD_cons_succ, List.getD_nil] at f0 f1 f2 f3 f4 f5 f6 f7 f8
      obtain ⟨A2, n2, c2, hcut, hm1, hm2, hm3, hrd⟩ := cutL A n c p hp hc
      have HT := Lib.hid (fun W (h : RdB W A n xs) => reftake_any A2 n2 c2 (xs.drop p) W (hrd W xs h))
      have HF := Lib.hid (fun W (h : RdB W A n xs) => reffault_any A2 n2 c2 (xs.drop p) W (hrd W xs h))
      have HRw := Lib.hid (HR.out.below HBW.out)
      have hd := dec_len (xs.drop p) (HR.out.2.drop p)
      rw [List.length_drop, HR.out.len] at hd
      obtain ⟨x, hx⟩ : ∃ x, (dec 0 (xs.drop p)).1 = x := ⟨_, rfl⟩
      obtain ⟨q, hq⟩ : ∃ q, (dec 0 (xs.drop p)).2 = q := ⟨_, rfl⟩
      rw [hx, hq] at HT
      rw [hq] at hd
      have HX := Lib.hid hx
      have HQ := Lib.hid hq
      clear hx hq hrd
      by_cases h0 : q = 0
      · have HR0 := Lib.hid ((gres_short (f := 0) (zs := [z0, z1, z2]) (HQ.out.trans h0)).symm.trans HE.out)
        subst h0
        clear hd
        go_wp2_with (first | (go_at_call 34; refine (HT.out _ HRw.out).mono ?_; rintro e w' ⟨rfl, rfl⟩) | (go_at_call 35; refine (HF.out _ HRw.out).mono ?_; rintro e w' ⟨rfl, rfl⟩))
        try simp only [Exit.inBlock, Exit.then]
        refine bodyPost_ret_by (results_row2 rfl _ _ w.heap.size 26 (0, 0) _ rfl (HZ.out.all 0 0 0 0 0 0 0 0 0 rfl) Tryd.underlying26 rfl (by kernel_rfl)) rfl ?_
        exact ⟨by rw [← HR0.out]; rfl, below9 HBW.out _ _ _ _ _ _ _ _ _⟩
      · have HRS := Aside0.mk ((gres_step (f := 0) (zs := [z0, z1, z2]) HX.out HQ.out h0).symm.trans HE.out)
        have hqb : ((q : Int) == 0) = false := beq_eq_false_iff_ne.2 (by omega)
        go_wp2_with (first | (go_at_call 34; refine (HT.out _ HRw.out).mono ?_; rintro e w' ⟨rfl, rfl⟩) | (at_builtin; refine appI (w0 := W0) (base := W0.heap.size) rfl (.tmp 30) (.tmp 32) rfl rfl rfl (HO.out.alloc _) (litI wr _ rfl (0, 0) [x] (Nat.le_of_ble_eq_true rfl)) (HB.out.alloc hsr _) ?sA ?lA ?_; (case sA => simp; omega); (case lA => simp); intro A3 n3 c3 w3 ho hb; have HO3 := Lib.hid ho; have HB3 := Lib.hid hb; have hl3 := ho.len; clear ho hb))
        go_roundw
        case rel => exact ⟨[z0, z1, z2, x], p + q, A3, n3, c3, by simp, by omega, rfl, by go_num, HRS, ⟨HO3.out⟩, ⟨HB3.out⟩⟩
        case measure => simp at hl3; subst hl3; simp
    | [z0, z1, z2, z3], _ =>
      have hl2 : 4 = n1 := hl
      subst hl2
      clear hl
      obtain ⟨g, rfl, hg0⟩ := HO.out.at_ 0 (by decide)
      obtain ⟨_, hgg, hg1⟩ := HO.out.at_ 1 (by decide)
      cases hgg
      obtain ⟨_, hgg, hg2⟩ := HO.out.at_ 2 (by decide)
      cases hgg
      obtain ⟨_, hgg, hg3⟩ := HO.out.at_ 3 (by decide)
      cases hgg
      obtain ⟨_, hgg, hk0⟩ := (HO.out.alloc (.cells #[.int .i64 0, .int .i64 0, .int .i64 0, .int .i64 0, .int .i64 0, .int .i64 0, .int .i64 0, .int .i64 0, .int .i64 0] 26)).at_ 0 (by decide)
      cases hgg
      obtain ⟨_, hgg, hk1⟩ := (HO.out.alloc (.cells #[.int .i64 0, .int .i64 0, .int .i64 0, .int .i64 0, .int .i64 0, .int .i64 0, .int .i64 0, .int .i64 0, .int .i64 0] 26)).at_ 1 (by decide)
      cases hgg
      obtain ⟨_, hgg, hk2⟩ := (HO.out.alloc (.cells #[.int .i64 0, .int .i64 0, .int .i64 0, .int .i64 0, .int .i64 0, .int .i64 0, .int .i64 0, .int .i64 0, .int .i64 0] 26)).at_ 2 (by decide)
      cases hgg
      obtain ⟨_, hgg, hk3⟩ := (HO.out.alloc (.cells #[.int .i64 0, .int .i64 0, .int .i64 0, .int .i64 0, .int .i64 0, .int .i64 0, .int .i64 0, .int .i64 0, .int .i64 0] 26)).at_ 3 (by decide)
      cases hgg
      simp only [List.getD_cons_zero, List.getD_cons_succ] at hg0 hg1 hg2 hg3 hk0 hk1 hk2 hk3
      have hgl := World.block_lt_of_cell? _ _ hg0
      dsimp only at hgl
      have HN1 : Hid (RowH ((wr.alloc (.cells #[.int .i64 z0, .int .i64 z1, .int .i64 z2, .int .i64 z3, .int .i64 0, .int .i64 0, .int .i64 0, .int .i64 0, .int .i64 0] 26)).drew) wr.heap.size [z0, z1, z2, z3, 0, 0, 0, 0, 0]) := Lib.hid ((RowH.new wr wr.heap.size rfl [z0, z1, z2, z3, 0, 0, 0, 0, 0]).below (Below.refl _ _).drew)
      have HZ1 := Lib.hid (HZ.out.below ((Below.refl wr.heap.size wr).alloc (Nat.le_refl _) (.cells #[.int .i64 z0, .int .i64 z1, .int .i64 z2, .int .i64 z3, .int .i64 0, .int .i64 0, .int .i64 0, .int .i64 0, .int .i64 0] 26)).drew)
      have hsw : w.heap.size < wr.heap.size := Nat.lt_of_lt_of_le hs0 hsr
      have HB1 := Lib.hid ((HBW.out.alloc (Nat.le_of_lt hsw) (.cells #[.int .i64 z0, .int .i64 z1, .int .i64 z2, .int .i64 z3, .int .i64 0, .int .i64 0, .int .i64 0, .int .i64 0, .int .i64 0] 26)).drew)
      go_wp2_with fail
      go_region
      generalize (wr.alloc (.cells #[.int .i64 z0, .int .i64 z1, .int .i64 z2, .int .i64 z3, .int .i64 0, .int .i64 0, .int .i64 0, .int .i64 0, .int .i64 0] 26)).drew = W1 at HN1 HZ1 HB1 ⊢
      clear hg0 hg1 hg2 hg3 hk0 hk1 hk2 hk3
      have hltN := HN1.out.lt
      clear HZ HBW HO HB hgl hsr
      generalize wr.heap.size = bN at HN1 hsw hltN ⊢
      have hswn : bN ≠ w.heap.size := by omega
      have hsz1 := HZ1.out.lt
      have e0 := HN1.out.cell 0 (by simp)
      have m0 := HN1.out.free 0
      have e1 := HN1.out.cell 1 (by simp)
      have m1 := HN1.out.free 1
      have e2 := HN1.out.cell 2 (by simp)
      have m2 := HN1.out.free 2
      have e3 := HN1.out.cell 3 (by simp)
      have m3 := HN1.out.free 3
      have e4 := HN1.out.cell 4 (by simp)
      have m4 := HN1.out.free 4
      have e5 := HN1.out.cell 5 (by simp)
      have m5 := HN1.out.free 5
      have e6 := HN1.out.cell 6 (by simp)
      have m6 := HN1.out.free 6
      have e7 := HN1.out.cell 7 (by simp)
      have m7 := HN1.out.free 7
      have e8 := HN1.out.cell 8 (by simp)
      have m8 := HN1.out.free 8
      have f0 := HZ1.out.cell 0 (by simp)
      have q0 := HZ1.out.free 0
      have f1 := HZ1.out.cell 1 (by simp)
      have q1 := HZ1.out.free 1
      have f2 := HZ1.out.cell 2 (by simp)
      have q2 := HZ1.out.free 2
      have f3 := HZ1.out.cell 3 (by simp)
      have q3 := HZ1.out.free 3
      have f4 := HZ1.out.cell 4 (by simp)
      have q4 := HZ1.out.free 4
      have f5 := HZ1.out.cell 5 (by simp)
      have q5 := HZ1.out.free 5
      have f6 := HZ1.out.cell 6 (by simp)
      have q6 := HZ1.out.free 6
      have f7 := HZ1.out.cell 7 (by simp)
      have q7 := HZ1.out.free 7
      have f8 := HZ1.out.cell 8 (by simp)
      have q8 := HZ1.out.free 8
      simp only [List.getD_cons_zero, List.getD_cons_succ, List.getD_nil] at e0 e1 e2 e3 e4 e5 e6 e7 e8 f0 f1 f2 f3 f4 f5 f6 f7 f8
      by_cases h3 : 0 < z3
      · obtain ⟨A2, n2, c2, hcut, hm1, hm2, hm3, hrd⟩ := cutL A n c p hp hc
        have HRw := Lib.hid (HR.out.below HB1.out)
        have HT := Lib.hid (refwtake_any A2 n2 c2 (xs.drop p) W1 (hrd W1 xs HRw.out) hm3)
        have htold := take_told (HR.out.2.drop p)
        obtain ⟨⟨⟨k, o, d, u, v⟩, qn, qe⟩, hR⟩ : ∃ R, takeM (xs.drop p) = R := ⟨_, rfl⟩
        rw [hR] at HT htold
        have HTR := Lib.hid hR
        have HT : Hid (Calls Tryd.prog 36 #[.slice A2 n2 c2] W1 fun e w' => e = .returned (.tuple #[.agg #[.int .i64 k, .int .i64 o, .int .i64 d, .int .i64 u, .int .i64 v], .int .i64 qn, .int .i64 qe]) ∧ Below W1.heap.size W1 w') := HT
        have hqn : qn + p ≤ n := by
          have h1 : qn ≤ (xs.drop p).length := by
            rcases htold with ⟨_, _, h, _⟩ | ⟨_, h, _⟩
            · exact h
            · have h : qn = 0 := h
              omega
          rw [List.length_drop, HR.out.len] at h1
          omega
        clear hR hrd htold
        by_cases he : qe = 0
        · subst he
          have HE2 : Hid (gfin ⟨z0, z1, z2, z3, ⟨k, o, d, u, v⟩⟩ (p + qn) = takeG xs) := Lib.hid ((gend_told (xs := xs) (zs := [z0, z1, z2, z3]) (p := p) h3 HTR.out).symm.trans HE.out)
          clear HTR
          go_wp2_with fail
          refine HT.out.mono ?_
          rintro e w5 ⟨rfl, hb⟩
          have HM5 := Lib.hid (HN1.out.below hb)
          have HZ5 := Lib.hid (HZ1.out.below hb)
          have HB5 := Lib.hid (HB1.out.trans (hb.mono HB1.out.size))
          have hlt5 := HM5.out.lt
          clear hb
          have e0 := HM5.out.cell 0 (by simp)
          have m0 := HM5.out.free 0
          have e1 := HM5.out.cell 1 (by simp)
          have m1 := HM5.out.free 1
          have e2 := HM5.out.cell 2 (by simp)
          have m2 := HM5.out.free 2
          have e3 := HM5.out.cell 3 (by simp)
          have m3 := HM5.out.free 3
          have e4 := HM5.out.cell 4 (by simp)
          have m4 := HM5.out.free 4
          have e5 := HM5.out.cell 5 (by simp)
          have m5 := HM5.out.free 5
          have e6 := HM5.out.cell 6 (by simp)
          have m6 := HM5.out.free 6
          have e7 := HM5.out.cell 7 (by simp)
          have m7 := HM5.out.free 7
          have e8 := HM5.out.cell 8 (by simp)
          have m8 := HM5.out.free 8
          have f0 := HZ5.out.cell 0 (by simp)
          have q0 := HZ5.out.free 0
          have f1 := HZ5.out.cell 1 (by simp)
          have q1 := HZ5.out.free 1
          have f2 := HZ5.out.cell 2 (by simp)
          have q2 := HZ5.out.free 2
          have f3 := HZ5.out.cell 3 (by simp)
          have q3 := HZ5.out.free 3
          have f4 := HZ5.out.cell 4 (by simp)
          have q4 := HZ5.out.free 4
          have f5 := HZ5.out.cell 5 (by simp)
          have q5 := HZ5.out.free 5
          have f6 := HZ5.out.cell 6 (by simp)
          have q6 := HZ5.out.free 6
          have f7 := HZ5.out.cell 7 (by simp)
          have q7 := HZ5.out.free 7
          have f8 := HZ5.out.cell 8 (by simp)
          have q8 := HZ5.out.free 8
          simp only [List.getD_cons_zero, List.getD_cons_succ, List.getD_nil] at e0 e1 e2 e3 e4 e5 e6 e7 e8 f0 f1 f2 f3 f4 f5 f6 f7 f8
          have BW5 := Lib.hid (below5c (Nat.le_of_lt hsw) HB5.out HB5.out.size (.int .i64 k) (.int .i64 o) (.int .i64 d) (.int .i64 u) (.int .i64 v) (.cells #[.int .i64 k, .int .i64 o, .int .i64 d, .int .i64 u, .int .i64 v] 24))
          have HV := Lib.hid (fun W => refgvalid_any ⟨z0, z1, z2, z3, ⟨k, o, d, u, v⟩⟩ W)
          have HV : Hid (∀ W, Calls Tryd.prog 13 #[.agg #[.int .i64 z0, .int .i64 z1, .int .i64 z2, .int .i64 z3, .int .i64 k, .int .i64 o, .int .i64 d, .int .i64 u, .int .i64 v]] W fun e w' => e = .returned (.bool (G.valid ⟨z0, z1, z2, z3, ⟨k, o, d, u, v⟩⟩)) ∧ Below W.heap.size W w') := HV
          cases hv : G.valid ⟨z0, z1, z2, z3, ⟨k, o, d, u, v⟩⟩
          · have HR0 := Lib.hid ((gfin_bad hv).symm.trans HE2.out)
            rw [hv] at HV
            clear hv
            go_wp2_with fail
            refine (HV.out _).mono ?_
            rintro e w9 ⟨rfl, hb⟩
            have HZ9 := Lib.hid (((((((HZ5.out.other hswn 4 _).other hswn 5 _).other hswn 6 _).other hswn 7 _).other hswn 8 _).alloc _).below hb)
            have HM9 := Lib.hid (((((((HM5.out.set 4 k).set 5 o).set 6 d).set 7 u).set 8 v).alloc _).below hb)
            have HB9 := Lib.hid ((BW5.out).trans (hb.mono (BW5.out).size))
            clear hb
            have e0 := HM9.out.cell 0 (by simp)
            have m0 := HM9.out.free 0
            have e1 := HM9.out.cell 1 (by simp)
            have m1 := HM9.out.free 1
            have e2 := HM9.out.cell 2 (by simp)
            have m2 := HM9.out.free 2
            have e3 := HM9.out.cell 3 (by simp)
            have m3 := HM9.out.free 3
            have e4 := HM9.out.cell 4 (by simp)
            have m4 := HM9.out.free 4
            have e5 := HM9.out.cell 5 (by simp)
            have m5 := HM9.out.free 5
            have e6 := HM9.out.cell 6 (by simp)
            have m6 := HM9.out.free 6
            have e7 := HM9.out.cell 7 (by simp)
            have m7 := HM9.out.free 7
            have e8 := HM9.out.cell 8 (by simp)
            have m8 := HM9.out.free 8
            have f0 := HZ9.out.cell 0 (by simp)
            have q0 := HZ9.out.free 0
            have f1 := HZ9.out.cell 1 (by simp)
            have q1 := HZ9.out.free 1
            have f2 := HZ9.out.cell 2 (by simp)
            have q2 := HZ9.out.free 2
            have f3 := HZ9.out.cell 3 (by simp)
            have q3 := HZ9.out.free 3
            have f4 := HZ9.out.cell 4 (by simp)
            have q4 := HZ9.out.free 4
            have f5 := HZ9.out.cell 5 (by simp)
            have q5 := HZ9.out.free 5
            have f6 := HZ9.out.cell 6 (by simp)
            have q6 := HZ9.out.free 6
            have f7 := HZ9.out.cell 7 (by simp)
            have q7 := HZ9.out.free 7
            have f8 := HZ9.out.cell 8 (by simp)
            have q8 := HZ9.out.free 8
            simp only [List.getD_cons_zero, List.getD_cons_succ, List.getD_nil] at e0 e1 e2 e3 e4 e5 e6 e7 e8 f0 f1 f2 f3 f4 f5 f6 f7 f8
            go_wp2
            try simp only [Exit.inBlock, Exit.then]
            refine bodyPost_ret_by (results_row2 rfl _ _ w.heap.size 26 (0, 0) _ rfl (HZ9.out.all 0 0 0 0 0 0 0 0 0 rfl) Tryd.underlying26 rfl (by kernel_rfl)) rfl ?_
            exact ⟨by rw [← HR0.out]; rfl, below9 HB9.out _ _ _ _ _ _ _ _ _⟩
          · have HR0 := Lib.hid ((gfin_good hv).symm.trans HE2.out)
            rw [hv] at HV
            clear hv
            go_wp2_with fail
            refine (HV.out _).mono ?_
            rintro e w9 ⟨rfl, hb⟩
            have HZ9 := Lib.hid (((((((HZ5.out.other hswn 4 _).other hswn 5 _).other hswn 6 _).other hswn 7 _).other hswn 8 _).alloc _).below hb)
            have HM9 := Lib.hid (((((((HM5.out.set 4 k).set 5 o).set 6 d).set 7 u).set 8 v).alloc _).below hb)
            have HB9 := Lib.hid ((BW5.out).trans (hb.mono (BW5.out).size))
            clear hb
            have e0 := HM9.out.cell 0 (by simp)
            have m0 := HM9.out.free 0
            have e1 := HM9.out.cell 1 (by simp)
            have m1 := HM9.out.free 1
            have e2 := HM9.out.cell 2 (by simp)
            have m2 := HM9.out.free 2
            have e3 := HM9.out.cell 3 (by simp)
            have m3 := HM9.out.free 3
            have e4 := HM9.out.cell 4 (by simp)
            have m4 := HM9.out.free 4
            have e5 := HM9.out.cell 5 (by simp)
            have m5 := HM9.out.free 5
            have e6 := HM9.out.cell 6 (by simp)
            have m6 := HM9.out.free 6
            have e7 := HM9.out.cell 7 (by simp)
            have m7 := HM9.out.free 7
            have e8 := HM9.out.cell 8 (by simp)
            have m8 := HM9.out.free 8
            have f0 := HZ9.out.cell 0 (by simp)
            have q0 := HZ9.out.free 0
            have f1 := HZ9.out.cell 1 (by simp)
            have q1 := HZ9.out.free 1
            have f2 := HZ9.out.cell 2 (by simp)
            have q2 := HZ9.out.free 2
            have f3 := HZ9.out.cell 3 (by simp)
            have q3 := HZ9.out.free 3
            have f4 := HZ9.out.cell 4 (by simp)
            have q4 := HZ9.out.free 4
            have f5 := HZ9.out.cell 5 (by simp)
            have q5 := HZ9.out.free 5
            have f6 := HZ9.out.cell 6 (by simp)
            have q6 := HZ9.out.free 6
            have f7 := HZ9.out.cell 7 (by simp)
            have q7 := HZ9.out.free 7
            have f8 := HZ9.out.cell 8 (by simp)
            have q8 := HZ9.out.free 8
            simp only [List.getD_cons_zero, List.getD_cons_succ, List.getD_nil] at e0 e1 e2 e3 e4 e5 e6 e7 e8 f0 f1 f2 f3 f4 f5 f6 f7 f8
            go_wp2
            try simp only [Exit.inBlock, Exit.then]
            refine bodyPost_ret_by (results_row2 rfl _ _ w.heap.size 26 (0, 0) _ rfl (HZ9.out.all z0 z1 z2 z3 k o d u v rfl) Tryd.underlying26 rfl (by kernel_rfl)) rfl ?_
            exact ⟨by rw [← HR0.out]; rfl, below9 HB9.out _ _ _ _ _ _ _ _ _⟩
        · have HE2 : Hid (⟨noG, 0, qe⟩ = takeG xs) := Lib.hid ((gend_bad (xs := xs) (zs := [z0, z1, z2, z3]) (p := p) h3 HTR.out he).symm.trans HE.out)
          have heb : (qe == 0) = false := beq_eq_false_iff_ne.2 he
          have heb2 : (qe != 0) = true := by simp [he]
          clear HTR
          go_wp2_with fail
          refine HT.out.mono ?_
          rintro e w5 ⟨rfl, hb⟩
          have HZ5 := Lib.hid (HZ1.out.below hb)
          have HB5 := Lib.hid (HB1.out.trans (hb.mono HB1.out.size))
          have hlt5 := HZ5.out.lt
          clear hb
          have f0 := HZ5.out.cell 0 (by simp)
          have q0 := HZ5.out.free 0
          have f1 := HZ5.out.cell 1 (by simp)
          have q1 := HZ5.out.free 1
          have f2 := HZ5.out.cell 2 (by simp)
          have q2 := HZ5.out.free 2
          have f3 := HZ5.out.cell 3 (by simp)
          have q3 := HZ5.out.free 3
          have f4 := HZ5.out.cell 4 (by simp)
          have q4 := HZ5.out.free 4
          have f5 := HZ5.out.cell 5 (by simp)
          have q5 := HZ5.out.free 5
          have f6 := HZ5.out.cell 6 (by simp)
          have q6 := HZ5.out.free 6
          have f7 := HZ5.out.cell 7 (by simp)
          have q7 := HZ5.out.free 7
          have f8 := HZ5.out.cell 8 (by simp)
          have q8 := HZ5.out.free 8
          simp only [List.getD_cons_zero, List.getD_cons_succ, List.getD_nil] at f0 f1 f2 f3 f4 f5 f6 f7 f8
          go_wp2
          try simp only [Exit.inBlock, Exit.then]
          refine bodyPost_ret_by (results_row2 rfl _ _ w.heap.size 26 (0, 0) _ rfl ((HZ5.out.all 0 0 0 0 0 0 0 0 0 rfl).alloc _) Tryd.underlying26 rfl (by kernel_rfl)) rfl ?_
          exact ⟨by rw [← HE2.out]; rfl, (below9 HB5.out _ _ _ _ _ _ _ _ _).alloc (below9 HB5.out _ _ _ _ _ _ _ _ _).size _⟩
      · have HE2 : Hid (gfin ⟨z0, z1, z2, z3, ⟨0, 0, 0, 0, 0⟩⟩ p = takeG xs) := Lib.hid ((gend_bare (xs := xs) (zs := [z0, z1, z2, z3]) (p := p) h3).symm.trans HE.out)
        have HV := Lib.hid (fun W => refgvalid_any ⟨z0, z1, z2, z3, ⟨0, 0, 0, 0, 0⟩⟩ W)
        have HV : Hid (∀ W, Calls Tryd.prog 13 #[.agg #[.int .i64 z0, .int .i64 z1, .int .i64 z2, .int .i64 z3, .int .i64 0, .int .i64 0, .int .i64 0, .int .i64 0, .int .i64 0]] W fun e w' => e = .returned (.bool (G.valid ⟨z0, z1, z2, z3, ⟨0, 0, 0, 0, 0⟩⟩)) ∧ Below W.heap.size W w') := HV
        cases hv : G.valid ⟨z0, z1, z2, z3, ⟨0, 0, 0, 0, 0⟩⟩
        · have HR0 := Lib.hid ((gfin_bad hv).symm.trans HE2.out)
          rw [hv] at HV
          clear hv
          go_wp2_with fail
          refine (HV.out _).mono ?_
          rintro e w9 ⟨rfl, hb⟩
          have HZ9 := Lib.hid ((HZ1.out).below hb)
          have HM9 := Lib.hid ((HN1.out).below hb)
          have HB9 := Lib.hid ((HB1.out).trans (hb.mono (HB1.out).size))
          clear hb
          have e0 := HM9.out.cell 0 (by simp)
          have m0 := HM9.out.free 0
          have e1 := HM9.out.cell 1 (by simp)
          have m1 := HM9.out.free 1
          have e2 := HM9.out.cell 2 (by simp)
          have m2 := HM9.out.free 2
          have e3 := HM9.out.cell 3 (by simp)
          have m3 := HM9.out.free 3
          have e4 := HM9.out.cell 4 (by simp)
          have m4 := HM9.out.free 4
          have e5 := HM9.out.cell 5 (by simp)
          have m5 := HM9.out.free 5
          have e6 := HM9.out.cell 6 (by simp)
          have m6 := HM9.out.free 6
          have e7 := HM9.out.cell 7 (by simp)
          have m7 := HM9.out.free 7
          have e8 := HM9.out.cell 8 (by simp)
          have m8 := HM9.out.free 8
          have f0 := HZ9.out.cell 0 (by simp)
          have q0 := HZ9.out.free 0
          have f1 := HZ9.out.cell 1 (by simp)
          have q1 := HZ9.out.free 1
          have f2 := HZ9.out.cell 2 (by simp)
          have q2 := HZ9.out.free 2
          have f3 := HZ9.out.cell 3 (by simp)
          have q3 := HZ9.out.free 3
          have f4 := HZ9.out.cell 4 (by simp)
          have q4 := HZ9.out.free 4
          have f5 := HZ9.out.cell 5 (by simp)
          have q5 := HZ9.out.free 5
          have f6 := HZ9.out.cell 6 (by simp)
          have q6 := HZ9.out.free 6
          have f7 := HZ9.out.cell 7 (by simp)
          have q7 := HZ9.out.free 7
          have f8 := HZ9.out.cell 8 (by simp)
          have q8 := HZ9.out.free 8
          simp only [List.getD_cons_zero, List.getD_cons_succ, List.getD_nil] at e0 e1 e2 e3 e4 e5 e6 e7 e8 f0 f1 f2 f3 f4 f5 f6 f7 f8
          go_wp2
          try simp only [Exit.inBlock, Exit.then]
          refine bodyPost_ret_by (results_row2 rfl _ _ w.heap.size 26 (0, 0) _ rfl (HZ9.out.all 0 0 0 0 0 0 0 0 0 rfl) Tryd.underlying26 rfl (by kernel_rfl)) rfl ?_
          exact ⟨by rw [← HR0.out]; rfl, below9 HB9.out _ _ _ _ _ _ _ _ _⟩
        · have HR0 := Lib.hid ((gfin_good hv).symm.trans HE2.out)
          rw [hv] at HV
          clear hv
          go_wp2_with fail
          refine (HV.out _).mono ?_
          rintro e w9 ⟨rfl, hb⟩
          have HZ9 := Lib.hid ((HZ1.out).below hb)
          have HM9 := Lib.hid ((HN1.out).below hb)
          have HB9 := Lib.hid ((HB1.out).trans (hb.mono (HB1.out).size))
          clear hb
          have e0 := HM9.out.cell 0 (by simp)
          have m0 := HM9.out.free 0
          have e1 := HM9.out.cell 1 (by simp)
          have m1 := HM9.out.free 1
          have e2 := HM9.out.cell 2 (by simp)
          have m2 := HM9.out.free 2
          have e3 := HM9.out.cell 3 (by simp)
          have m3 := HM9.out.free 3
          have e4 := HM9.out.cell 4 (by simp)
          have m4 := HM9.out.free 4
          have e5 := HM9.out.cell 5 (by simp)
          have m5 := HM9.out.free 5
          have e6 := HM9.out.cell 6 (by simp)
          have m6 := HM9.out.free 6
          have e7 := HM9.out.cell 7 (by simp)
          have m7 := HM9.out.free 7
          have e8 := HM9.out.cell 8 (by simp)
          have m8 := HM9.out.free 8
          have f0 := HZ9.out.cell 0 (by simp)
          have q0 := HZ9.out.free 0
          have f1 := HZ9.out.cell 1 (by simp)
          have q1 := HZ9.out.free 1
          have f2 := HZ9.out.cell 2 (by simp)
          have q2 := HZ9.out.free 2
          have f3 := HZ9.out.cell 3 (by simp)
          have q3 := HZ9.out.free 3
          have f4 := HZ9.out.cell 4 (by simp)
          have q4 := HZ9.out.free 4
          have f5 := HZ9.out.cell 5 (by simp)
          have q5 := HZ9.out.free 5
          have f6 := HZ9.out.cell 6 (by simp)
          have q6 := HZ9.out.free 6
          have f7 := HZ9.out.cell 7 (by simp)
          have q7 := HZ9.out.free 7
          have f8 := HZ9.out.cell 8 (by simp)
          have q8 := HZ9.out.free 8
          simp only [List.getD_cons_zero, List.getD_cons_succ, List.getD_nil] at e0 e1 e2 e3 e4 e5 e6 e7 e8 f0 f1 f2 f3 f4 f5 f6 f7 f8
          go_wp2
          try simp only [Exit.inBlock, Exit.then]
          refine bodyPost_ret_by (results_row2 rfl _ _ w.heap.size 26 (0, 0) _ rfl (HZ9.out.all z0 z1 z2 z3 0 0 0 0 0 rfl) Tryd.underlying26 rfl (by kernel_rfl)) rfl ?_
          exact ⟨by rw [← HR0.out]; rfl, below9 HB9.out _ _ _ _ _ _ _ _ _⟩
end Go.Proofs.YtobkcedmjeidfaaDoor.gtake
