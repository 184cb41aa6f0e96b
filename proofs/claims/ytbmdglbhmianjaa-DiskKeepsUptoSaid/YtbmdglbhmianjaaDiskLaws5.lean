/- The walk of the law DiskKeeps. -/
import Derived.Test.YtbmdglbhmianjaaDiskKeepP
set_option linter.unusedVariables false
set_option linter.unusedSimpArgs false
namespace Go.Proofs.Ytbmdglbhmianjaa.diskl5
open Go.RowKit Go.Proofs.YtbmdglbhmianjaaW.PrintWords Go.Proofs.Ytbmdglbhmianjaa.base Go.Proofs.Ytbmdglbhmianjaa.mem Go.Proofs.Ytbmdglbhmianjaa.keep Go.Proofs.Ytbmdglbhmianjaa.samew Go.Proofs.Ytbmdglbhmianjaa.diskp Go.Proofs.Ytbmdglbhmianjaa.diskr Go.Proofs.Ytbmdglbhmianjaa.diskw Go.Proofs.Ytbmdglbhmianjaa.clone Go.Proofs.Ytbmdglbhmianjaa.filesp Go.Proofs.Ytbmdglbhmianjaa.dkeepp

set_option maxHeartbeats 8000000 in
set_option maxRecDepth 100000 in
theorem keepsLaw (A : Option Addr) (n c : Nat) (xs : List Int) (A' : Option Addr) (m c' : Nat) (ys : List Int) (w : World) (hr : RdB w A n xs) (hc : n ≤ c) (hz : n + 1 ≤ 1048576) (hr' : RdB w A' m ys) (hc' : m ≤ c') (hz' : m + 1 ≤ 1048576) :
    Calls Try.prog 3 #[.slice A n c, .slice A' m c'] w fun e w' => e = .returned (.bool true) ∧ Below w.heap.size w w' := by
  have HR := Lib.hid hr
  have HR' := Lib.hid hr'
  have L7 : Hid (By [71, 72]) := Lib.hid (By_of _ (by decide))
  have L8 : Hid (By [73, 74]) := Lib.hid (By_of _ (by decide))
  have L5 : Hid (By [5, 6, 7]) := Lib.hid (By_of _ (by decide))
  clear hr hr'
  go_enter Try.func3, Try.ntmps3
  go_wp2_with fail
  refine (wakes_any w).mono ?_
  rintro e w1 ⟨rfl, hb⟩
  have HB1 := Lib.hid hb
  have hs1 := hb.size
  have HR1 := Lib.hid (HR.out.below hb)
  have R1 := Lib.hid (Below.refl w1.heap.size w1)
  clear hb
  go_wp2_with (first | (at_builtin; refine app (w0 := w1) (base := w1.heap.size) rfl (.tmp 26) (.tmp 27) rfl rfl rfl (OwB.lit0 w1 _ (Nat.le_refl _)) (HR1.out.below (R1.out.alloc (Nat.le_refl _) _)) (R1.out.alloc (Nat.le_refl _) _) ?s2 ?l2 ?_; (case s2 => simp); (case l2 => omega); intro A2 n2 c2 w2 ho hb; have hL := ho.len; rw [List.nil_append] at ho; rw [List.nil_append, HR.out.len] at hL; subst hL; have HO2 := Lib.hid ho; have HB2 := Lib.hid hb; have hs2 := hb.size; clear ho hb) | (at_builtin; refine app (w0 := w1) (base := w1.heap.size) rfl (.tmp 28) (.tmp 29) rfl rfl rfl (HO2.out.alloc _) (litB w2 (0, 0) [71, 72] (Nat.le_of_ble_eq_true rfl) L7.out) (HB2.out.alloc hs2 _) ?s3 ?l3 ?_; (case s3 => simp; omega); (case l3 => simp; omega); intro A3 n3 c3 w3 ho hb; have HO3 := Lib.hid ho; have HB3 := Lib.hid (HB1.out.trans (hb.mono HB1.out.size)); have hl3 := ho.len; have hs3 := hb.size; have HR3 := Lib.hid (HR'.out.below HB3.out); have R3 := Lib.hid (Below.refl w3.heap.size w3); clear ho hb) | (at_builtin; refine app (w0 := w3) (base := w3.heap.size) rfl (.tmp 31) (.tmp 32) rfl rfl rfl (OwB.lit0 w3 _ (Nat.le_refl _)) (HR3.out.below (R3.out.alloc (Nat.le_refl _) _)) (R3.out.alloc (Nat.le_refl _) _) ?s4 ?l4 ?_; (case s4 => simp); (case l4 => omega); intro A4 n4 c4 w4 ho hb; have hL := ho.len; rw [List.nil_append] at ho; rw [List.nil_append, HR'.out.len] at hL; subst hL; have HO4 := Lib.hid ho; have HB4 := Lib.hid hb; have hs4 := hb.size; clear ho hb) | (at_builtin; refine app (w0 := w3) (base := w3.heap.size) rfl (.tmp 33) (.tmp 34) rfl rfl rfl (HO4.out.alloc _) (litB w4 (0, 0) [73, 74] (Nat.le_of_ble_eq_true rfl) L8.out) (HB4.out.alloc hs4 _) ?s5 ?l5 ?_; (case s5 => simp; omega); (case l5 => simp; omega); intro A5 n5 c5 w5 ho hb; have HO5 := Lib.hid ho; have HB5 := Lib.hid (HB3.out.trans (hb.mono HB3.out.size)); have hl5 := ho.len; have hs5 := hb.size; have HM5 := Lib.hid (HO3.out.below hb); clear ho hb))
  rw [List.length_append, HR.out.len] at hl3
  rw [List.length_append, HR'.out.len] at hl5
  simp only [List.length_cons, List.length_nil] at hl3 hl5
  have hn3a : n + 2 ≤ n3 := by omega
  have hn3b : n3 ≤ n + 2 := by omega
  have hn5a : m + 2 ≤ n5 := by omega
  have hn5b : n5 ≤ m + 2 := by omega
  clear hl3 hl5
  obtain ⟨g3, rfl, hg3, hg3l⟩ := HO3.out.form (by omega)
  obtain ⟨g5, rfl, hg5, hg5l⟩ := HO5.out.form (by omega)
  have hc3 := HO3.out.cap
  have hc5 := HO5.out.cap
  have hnc : n ≤ c3 := by omega
  have hnci : (n : Int) ≤ (c3 : Int) := by omega
  have hmc : m ≤ c5 := by omega
  have hmci : (m : Int) ≤ (c5 : Int) := by omega
  have hn3 : n ≤ n3 := by omega
  have hm5 : m ≤ n5 := by omega
  have hs1w : w.heap.size ≤ w1.heap.size := hs1
  have hs35 : w3.heap.size ≤ w5.heap.size := hs5
  have hgw3 : w.heap.size ≤ g3 := by omega
  have hgw5 : w.heap.size ≤ g5 := by omega
  have hg35 : g3 < g5 := by omega
  have hg3s : g3 < w5.heap.size := by omega
  have HXF : Hid (∀ W, OwB W w1.heap.size (some ⟨g3, 0, none⟩) n3 c3 (xs ++ [71, 72]) → RdB W (some ⟨g3, 0, none⟩) n xs) := Lib.hid fun W h => by have := h.rd.take n hn3; rwa [List.take_left' HR.out.len] at this
  have HYF : Hid (∀ W, OwB W w3.heap.size (some ⟨g5, 0, none⟩) n5 c5 (ys ++ [73, 74]) → RdB W (some ⟨g5, 0, none⟩) m ys) := Lib.hid fun W h => by have := h.rd.take m hm5; rwa [List.take_left' HR'.out.len] at this
  have DD5 := Lib.hid (Below.refl w5.heap.size w5).drew
  have HM5d := Lib.hid (HM5.out.below DD5.out)
  have HN5d := Lib.hid (HO5.out.below DD5.out)
  have RX5 := Lib.hid (HXF.out _ HM5d.out)
  have RY5 := Lib.hid (HYF.out _ HN5d.out)
  have hs5d := DD5.out.size
  have hs55 : w5.drew.heap.size = w5.heap.size := rfl
  go_region_held3 (fun _ => True) (trivial) ((go_at_call 10; refine (load_any _ _ _ _ _ _ _ _ _ RX5.out (by omega) RY5.out (by omega)).mono ?_; rintro e w6 ⟨p, cs, rfl, hd, hb⟩; have HD6 := Lib.hid (hd.less hs5d); have HB6 := Lib.hid (HB5.out.trans ((DD5.out.trans hb).mono HB5.out.size)); have HM6 := Lib.hid (HM5d.out.below hb); have HN6 := Lib.hid (HN5d.out.below hb); have hs6 := hb.size; clear hd hb))
  have DD6 := Lib.hid (Below.refl w6.heap.size w6).drew
  have HM6d := Lib.hid (HM6.out.below DD6.out)
  have HN6d := Lib.hid (HN6.out.below DD6.out)
  have HD6d := Lib.hid (HD6.out.below DD6.out)
  have RX6 := Lib.hid (HXF.out _ HM6d.out)
  have RY6 := Lib.hid (HYF.out _ HN6d.out)
  have hs6d := DD6.out.size
  go_wp2_with fail
  go_region_held3 (fun _ => True) (trivial) ((go_at_call 10; refine (load_any _ _ _ _ _ _ _ _ _ RX6.out (by omega) RY6.out (by omega)).mono ?_; rintro e w7 ⟨q, cq, rfl, hd, hb⟩; have HQ7 := Lib.hid (hd.less (Nat.le_trans hs5d (Nat.le_trans hs6 hs6d))); have HD7 := Lib.hid (HD6d.out.below hb); have HJ7 : Hid (∀ g, Ft p cs g → ¬ Ft q cq g) := Lib.hid (fun g h1 h2 => absurd (HD6d.out.ft h1).2 (Nat.not_lt.2 (hd.ft h2).1)); have HB7 := Lib.hid (HB6.out.trans ((DD6.out.trans hb).mono HB6.out.size)); have HM7 := Lib.hid (HM6d.out.below hb); have HN7 := Lib.hid (HN6d.out.below hb); have hs7 := hb.size; clear hd hb))
  obtain ⟨ha0, ha1, ha2, ha3, ha4⟩ := reads_all xs ys
  have hkl := Ok.load xs ys
  rw [HR.out.len, HR'.out.len] at hkl
  have HKQ := Lib.hid (hkl.fit (by omega) (by omega)).b
  have hka := hkl.app 0 ys
  rw [HR'.out.len] at hka
  have HKD := Lib.hid (hka.fit (by omega) (by omega)).b
  have CA := Lib.hid (append_any HD7.out (hkl.fit (by omega) (by omega)) 0 (some ⟨g5, 0, none⟩) m c5 ys (HYF.out _ HN7.out) (hkl.fits (by omega)))
  rw [ha0] at CA
  have RD0 := Lib.hid ha1
  have RD1 := Lib.hid ha2
  have RQ0 := Lib.hid ha3
  have RQ1 := Lib.hid ha4
  clear ha0 ha1 ha2 ha3 ha4 hkl hka
  generalize (appR (diskp.load xs ys) 0 ys).1 = d1 at *
  generalize diskp.load xs ys = o1 at *
  go_wp2_with fail
  refine CA.out.mono ?_
  rintro e w8 ⟨rfl, cs8, h8, s8⟩
  have HB8 := Lib.hid (HB7.out.trans (s8.bel.mono HB5.out.size))
  have HD8 := Lib.hid h8
  have HQ8 := Lib.hid (HQ7.out.kept s8.keep (fun g hg e => HJ7.out g e hg))
  have HM8 := Lib.hid (own_apart HM7.out (fun g hg e => by have h1 := (HD7.out.ft e).1; have e1 : some g3 = some g := hg; injection e1 with e1; omega) s8)
  have HN8 := Lib.hid (own_apart HN7.out (fun g hg e => by have h1 := (HD7.out.ft e).1; have e1 : some g5 = some g := hg; injection e1 with e1; omega) s8)
  have CS8 := Lib.hid (same_any (some ⟨g3, 0, none⟩) n c3 xs A n c xs w8 (HXF.out _ HM8.out) (HR.out.below HB8.out))
  rw [eqL_self] at CS8
  have hs8 := s8.keep.1
  clear h8 s8
  go_wp2_with fail
  refine CS8.out.mono ?_
  rintro e w9 ⟨rfl, hd⟩
  have hb := hd.below
  have HB9 := Lib.hid (HB8.out.trans (hb.mono HB8.out.size))
  have HD9 := Lib.hid (HD8.out.below hb)
  have HQ9 := Lib.hid (HQ8.out.below hb)
  have HM9 := Lib.hid (HM8.out.below hb)
  have HN9 := Lib.hid (HN8.out.below hb)
  have hs9 := hb.size
  have CS9 := Lib.hid (same_any (some ⟨g5, 0, none⟩) m c5 ys A' m c' ys w9 (HYF.out _ HN9.out) (HR'.out.below HB9.out))
  rw [eqL_self] at CS9
  clear hd hb
  go_wp2_with fail
  refine CS9.out.mono ?_
  rintro e wz ⟨rfl, hd⟩
  have hb := hd.below
  have HBz := Lib.hid (HB9.out.trans (hb.mono HB9.out.size))
  have HDz := Lib.hid (HD9.out.below hb)
  have HQz := Lib.hid (HQ9.out.below hb)
  have HMz := Lib.hid (HM9.out.below hb)
  have HNz := Lib.hid (HN9.out.below hb)
  have c71 := (HMz.out.at_ n (by omega)).1
  have c74 := (HNz.out.at_ (m + 1) (by omega)).1
  have h71 : (xs ++ [71, 72]).getD n 0 = 71 := by simp [List.getD_eq_getElem?_getD, ← HR.out.len]
  have h74 : (ys ++ [73, 74]).getD (m + 1) 0 = 74 := by simp [List.getD_eq_getElem?_getD, ← HR'.out.len]
  rw [h71] at c71
  rw [h74] at c74
  have hnn : n < n3 := by omega
  have hnni : (n : Int) < (n3 : Int) := by omega
  have hmm : m + 1 < n5 := by omega
  have hmmi : (m : Int) + 1 < (n5 : Int) := by omega
  have n3D : Hid (¬ Ft p cs8 g3) := Lib.hid fun e => by have := (HDz.out.ft e).1; omega
  have n3Q : Hid (¬ Ft q cq g3) := Lib.hid fun e => by have := (HQz.out.ft e).1; omega
  have n5D : Hid (¬ Ft p cs8 g5) := Lib.hid fun e => by have := (HDz.out.ft e).1; omega
  have n5Q : Hid (¬ Ft q cq g5) := Lib.hid fun e => by have := (HQz.out.ft e).1; omega
  clear hd hb h71 h74 HM5 HM6 HM7 HM8 HM9 HN6 HN7 HN8 HN9 HD6 HD7 HD8 HD9 HQ7 HQ8 HQ9 HB3 HB5 HB6 HB7 HB8 HB9 HM5d HN5d HM6d HN6d HD6d RX5 RX6 RY5 RY6 HJ7 HR1 HR3 R1 R3 HO3 HO5
  go_wp2
  clear c71 c74
  go_loopw [9, 104] (fun _ li wr => ∃ (i : Nat) (zs : List Int), i ≤ n3 ∧ li = .int .i64 i ∧ Aside0 (OwB wr w1.heap.size (some ⟨g3, 0, none⟩) n3 c3 zs) ∧ Aside0 (OwB wr w3.heap.size (some ⟨g5, 0, none⟩) n5 c5 (ys ++ [73, 74])) ∧ Aside0 (DAt wr w5.heap.size p cs8 d1) ∧ Aside0 (DAt wr w5.heap.size q cq o1) ∧ Aside0 (Below w.heap.size w wr)) (fun _ li _ => n3 - (intOf li).toNat)
  case atStart => exact ⟨0, _, by omega, rfl, ⟨HMz.out⟩, ⟨HNz.out⟩, ⟨HDz.out⟩, ⟨HQz.out⟩, ⟨HBz.out⟩⟩
  case round =>
    obtain ⟨i1, zs1, hi1, rfl, HM1, HN1, HD1, HQ1, HB1⟩ := hrel
    by_cases hlt1 : i1 < n3
    · have hk1 := hi1
      obtain ⟨hcell, hfr⟩ := HM1.out.at_ i1 hlt1
      generalize zs1.getD i1 0 = z at hcell
      have SM := Aside0.mk (HM1.out.store i1 1 ⟨by decide, by decide⟩)
      have SN := Aside0.mk (OwB.past HN1.out (g := g3) hg3l i1 (.int .u8 1))
      have SD := Aside0.mk (at_store HD1.out n3D.out i1 (.int .u8 1))
      have SQ := Aside0.mk (at_store HQ1.out n3Q.out i1 (.int .u8 1))
      have SB := Aside0.mk (HB1.out.setCell (p := ⟨g3, i1, none⟩) hgw3 (.int .u8 1))
      go_wp2
      go_roundw
      case rel => exact ⟨i1 + 1, _, by omega, by go_num, SM, SN, SD, SQ, SB⟩
      case measure => simp [intOf]; omega
    · go_wp2
      clear hlt1
      go_loopw [10, 113] (fun _ li wr => ∃ (i : Nat) (zs : List Int), i ≤ n5 ∧ li = .int .i64 i ∧ Aside0 (OwB wr w3.heap.size (some ⟨g5, 0, none⟩) n5 c5 zs) ∧ Aside0 (DAt wr w5.heap.size p cs8 d1) ∧ Aside0 (DAt wr w5.heap.size q cq o1) ∧ Aside0 (Below w.heap.size w wr)) (fun _ li _ => n5 - (intOf li).toNat)
      case atStart => exact ⟨0, _, by omega, rfl, ⟨HN1.out⟩, ⟨HD1.out⟩, ⟨HQ1.out⟩, ⟨HB1.out⟩⟩
      case round =>
        obtain ⟨i2, zs2, hi2, rfl, HN2, HD2, HQ2, HB2⟩ := hrel
        by_cases hlt2 : i2 < n5
        · have hk2 := hi2
          obtain ⟨hcell, hfr⟩ := HN2.out.at_ i2 hlt2
          generalize zs2.getD i2 0 = z at hcell
          have SN := Aside0.mk (HN2.out.store i2 2 ⟨by decide, by decide⟩)
          have SD := Aside0.mk (at_store HD2.out n5D.out i2 (.int .u8 2))
          have SQ := Aside0.mk (at_store HQ2.out n5Q.out i2 (.int .u8 2))
          have SB := Aside0.mk (HB2.out.setCell (p := ⟨g5, i2, none⟩) hgw5 (.int .u8 2))
          go_wp2
          go_roundw
          case rel => exact ⟨i2 + 1, _, by omega, by go_num, SN, SD, SQ, SB⟩
          case measure => simp [intOf]; omega
        · have hend := hlt2
          rename World => wr0
          have hsv := HB2.out.size
          have CR0 := Lib.hid (read_any HD2.out HKD.out 0)
          rw [RD0.out] at CR0
          dsimp only at CR0
          have FD : Hid (∀ g, Ft p cs8 g → g < wr0.heap.size) := Lib.hid fun g hg => (HD2.out.ft hg).2
          have FQ : Hid (∀ g, Ft q cq g → g < wr0.heap.size) := Lib.hid fun g hg => (HQ2.out.ft hg).2
          go_wp2_with fail
          clear hend hlt2
          refine CR0.out.mono ?_
          rintro e wa ⟨Ax, nx, cx, rfl, ho, hb⟩
          have HBa := Lib.hid (HB2.out.trans (hb.mono hsv))
          have HDa := Lib.hid (HD2.out.below hb)
          have HQa := Lib.hid (HQ2.out.below hb)
          have HXa := Lib.hid ho
          have hlx := ho.len
          have hsa := hb.size
          have hxb : ∀ j, (Value.slice Ax nx cx).ownBlock = some j → wr0.heap.size ≤ j ∧ j < wa.heap.size := OwB.blk ho
          have HXB := Lib.hid hxb
          rw [List.length_append, HR.out.len, HR'.out.len] at hlx
          have hnx : nx ≤ n + m := by omega
          have CSY := Lib.hid (safe_any HDa.out HKD.out 1)
          rw [RD1.out] at CSY
          clear ho hb hxb hlx
          go_wp2_with fail
          refine CSY.out.mono ?_
          rintro e wb ⟨Ay, ny, cy, rfl, ho, hb⟩
          have HBb := Lib.hid (HBa.out.trans (hb.mono HBa.out.size))
          have HDb := Lib.hid (HDa.out.below hb)
          have HQb := Lib.hid (HQa.out.below hb)
          have HXb := Lib.hid (HXa.out.below hb)
          have HYb := Lib.hid ho
          have hly := ho.len
          have hsb := hb.size
          have HYB : Hid (∀ j, (Value.slice Ay ny cy).ownBlock = some j → wa.heap.size ≤ j ∧ j < wb.heap.size) := Lib.hid (OwB.blk ho)
          have HRb := Lib.hid (HR.out.below HBb.out)
          have HRb' := Lib.hid (HR'.out.below HBb.out)
          have Rb := Lib.hid (Below.refl wb.heap.size wb)
          rw [HR'.out.len] at hly
          have hny : ny ≤ m := by omega
          clear ho hb hly
          go_wp2_with (first | (at_builtin; refine app (w0 := wb) (base := wb.heap.size) rfl (.tmp 127) (.tmp 128) rfl rfl rfl (OwB.lit0 wb _ (Nat.le_refl _)) (HRb.out.below (Rb.out.alloc (Nat.le_refl _) _)) (Rb.out.alloc (Nat.le_refl _) _) ?s21 ?l21 ?_; (case s21 => simp); (case l21 => omega); intro A21 n21 c21 w21 ho hb; have hL := ho.len; rw [List.nil_append] at ho; rw [List.nil_append, HR.out.len] at hL; subst hL; have HW21 := Lib.hid ho; have HB21 := Lib.hid hb; have hs21 := hb.size; clear ho hb) | (at_builtin; refine app (w0 := wb) (base := wb.heap.size) rfl (.tmp 129) (.tmp 130) rfl rfl rfl (HW21.out) (HRb'.out.below HB21.out) (HB21.out) ?s22 ?l22 ?_; (case s22 => omega); (case l22 => omega); intro A22 n22 c22 w22 ho hb; have HW22 := Lib.hid ho; have hb22 := hb; have HBc := Lib.hid (HBb.out.trans (hb.mono HBb.out.size)); have HDc := Lib.hid (HDb.out.below hb); have HQc := Lib.hid (HQb.out.below hb); have HXc := Lib.hid (HXb.out.below hb); have HYc := Lib.hid (HYb.out.below hb); have hsc := hb.size; clear hb22; clear ho hb))
          have CSx := Lib.hid (same_any Ax nx cx (xs ++ ys) A22 n22 c22 (xs ++ ys) w22 HXc.out.rd HW22.out.rd)
          rw [eqL_self] at CSx
          refine CSx.out.mono ?_
          rintro e wd ⟨rfl, hd⟩
          have hb := hd.below
          have HBd := Lib.hid (HBc.out.trans (hb.mono HBc.out.size))
          have HDd := Lib.hid (HDc.out.below hb)
          have HQd := Lib.hid (HQc.out.below hb)
          have HXd := Lib.hid (HXc.out.below hb)
          have HYd := Lib.hid (HYc.out.below hb)
          have HWd := Lib.hid (HW22.out.below hb)
          have CSy := Lib.hid (same_any Ay ny cy ys A' m c' ys wd HYd.out.rd (HR'.out.below HBd.out))
          rw [eqL_self] at CSy
          clear hd hb
          go_wp2_with fail
          refine CSy.out.mono ?_
          rintro e we ⟨rfl, hd⟩
          have hb := hd.below
          have HBe := Lib.hid (HBd.out.trans (hb.mono HBd.out.size))
          have HDe := Lib.hid (HDd.out.below hb)
          have HQe := Lib.hid (HQd.out.below hb)
          have HXe := Lib.hid (HXd.out.below hb)
          have HYe := Lib.hid (HYd.out.below hb)
          have HWe := Lib.hid (HWd.out.below hb)
          clear hd hb HXa HXb HXc HXd HYb HYc HYd HDa HDb HDc HDd HQa HQb HQc HQd HBa HBb HBc HBd HW21 HB21 HW22 HWd
          go_wp2
          go_loopw [15, 148] (fun _ li wr => ∃ (i : Nat) (zs : List Int), i ≤ nx ∧ li = .int .i64 i ∧ Aside0 (OwB wr wr0.heap.size Ax nx cx zs) ∧ Aside0 (OwB wr wa.heap.size Ay ny cy ys) ∧ Aside0 (OwB wr wb.heap.size A22 n22 c22 (xs ++ ys)) ∧ Aside0 (DAt wr w5.heap.size p cs8 d1) ∧ Aside0 (DAt wr w5.heap.size q cq o1) ∧ Aside0 (Below w.heap.size w wr)) (fun _ li _ => nx - (intOf li).toNat)
          case atStart => exact ⟨0, _, by omega, rfl, ⟨HXe.out⟩, ⟨HYe.out⟩, ⟨HWe.out⟩, ⟨HDe.out⟩, ⟨HQe.out⟩, ⟨HBe.out⟩⟩
          case round =>
            obtain ⟨i3, zs3, hi3, rfl, HX3, HY3, HW3, HD3, HQ3, HB3⟩ := hrel
            by_cases hlt3 : i3 < nx
            · obtain ⟨gx, rfl, _, _⟩ := HX3.out.form (by omega)
              have hbx := HXB.out gx rfl
              have hgwx : w.heap.size ≤ gx := by omega
              have hxa : gx < wb.heap.size := by omega
              have nD : ¬ Ft p cs8 gx := fun e => by have := FD.out gx e; omega
              have nQ : ¬ Ft q cq gx := fun e => by have := FQ.out gx e; omega
              have ND := Lib.hid nD
              have NQ := Lib.hid nQ
              clear nD nQ
              obtain ⟨hcell, hfr⟩ := HX3.out.at_ i3 hlt3
              generalize zs3.getD i3 0 = z at hcell
              have SX := Aside0.mk (HX3.out.store i3 3 ⟨by decide, by decide⟩)
              have SY := Aside0.mk (OwB.past HY3.out (g := gx) hbx.2 i3 (.int .u8 3))
              have SW := Aside0.mk (OwB.past HW3.out (g := gx) hxa i3 (.int .u8 3))
              have SD := Aside0.mk (at_store HD3.out ND.out i3 (.int .u8 3))
              have SQ := Aside0.mk (at_store HQ3.out NQ.out i3 (.int .u8 3))
              have SB := Aside0.mk (HB3.out.setCell (p := ⟨gx, i3, none⟩) hgwx (.int .u8 3))
              go_wp2
              go_roundw
              case rel => exact ⟨i3 + 1, _, by omega, by go_num, SX, SY, SW, SD, SQ, SB⟩
              case measure => simp [intOf]; omega
            · go_wp2
              clear hlt3
              go_loopw [16, 157] (fun _ li wr => ∃ (i : Nat) (zs us : List Int), i ≤ ny ∧ li = .int .i64 i ∧ Aside0 (OwB wr wa.heap.size Ay ny cy zs) ∧ Aside0 (OwB wr wr0.heap.size Ax nx cx us) ∧ Aside0 (OwB wr wb.heap.size A22 n22 c22 (xs ++ ys)) ∧ Aside0 (DAt wr w5.heap.size p cs8 d1) ∧ Aside0 (DAt wr w5.heap.size q cq o1) ∧ Aside0 (Below w.heap.size w wr)) (fun _ li _ => ny - (intOf li).toNat)
              case atStart => exact ⟨0, _, _, by omega, rfl, ⟨HY3.out⟩, ⟨HX3.out⟩, ⟨HW3.out⟩, ⟨HD3.out⟩, ⟨HQ3.out⟩, ⟨HB3.out⟩⟩
              case round =>
                obtain ⟨i4, zs4, us4, hi4, rfl, HY4, HX4, HW4, HD4, HQ4, HB4⟩ := hrel
                by_cases hlt4 : i4 < ny
                · obtain ⟨gy, rfl, _, _⟩ := HY4.out.form (by omega)
                  have hby := HYB.out gy rfl
                  have hgwy : w.heap.size ≤ gy := by omega
                  have nD : ¬ Ft p cs8 gy := fun e => by have := FD.out gy e; omega
                  have nQ : ¬ Ft q cq gy := fun e => by have := FQ.out gy e; omega
                  have ND := Lib.hid nD
                  have NQ := Lib.hid nQ
                  clear nD nQ
                  have SXX := Lib.hid (OwB.set_other HX4.out (g := gy) (fun j hj => by have := HXB.out j hj; omega) i4 (.int .u8 4))
                  obtain ⟨hcell, hfr⟩ := HY4.out.at_ i4 hlt4
                  generalize zs4.getD i4 0 = z at hcell
                  have SY := Aside0.mk (HY4.out.store i4 4 ⟨by decide, by decide⟩)
                  have SX := Aside0.mk (SXX.out)
                  have SW := Aside0.mk (OwB.past HW4.out (g := gy) hby.2 i4 (.int .u8 4))
                  have SD := Aside0.mk (at_store HD4.out ND.out i4 (.int .u8 4))
                  have SQ := Aside0.mk (at_store HQ4.out NQ.out i4 (.int .u8 4))
                  have SB := Aside0.mk (HB4.out.setCell (p := ⟨gy, i4, none⟩) hgwy (.int .u8 4))
                  go_wp2
                  go_roundw
                  case rel => exact ⟨i4 + 1, _, _, by omega, by go_num, SY, SX, SW, SD, SQ, SB⟩
                  case measure => simp [intOf]; omega
                · have hend := hlt4
                  have hlX := HX4.out.len
                  have hs4r := HB4.out.size
                  go_wp2_with (first | (at_builtin; refine appH (w0 := w) (base := w.heap.size) rfl (.tmp 164) (.tmp 165) rfl rfl rfl ((HX4.out.less hsv).alloc _) (litB wr (0, 0) [5, 6, 7] (Nat.le_of_ble_eq_true rfl) L5.out) (HB4.out.alloc hs4r _) ?s31 ?l31 ?_; (case s31 => simp; omega); (case l31 => simp; omega); intro A31 n31 c31 w31 ho hb hg hob; have hl31 := ho.len; have HB31 := Lib.hid hb; have HD31 := Lib.hid (at_grown (HD4.out.below (below_alloc (Below.refl _ _) _)) hg (fun j hj e => by have h1 := FD.out j e; have h2 := HXB.out j hj; omega)); have HQ31 := Lib.hid (at_grown (HQ4.out.below (below_alloc (Below.refl _ _) _)) hg (fun j hj e => by have h1 := FQ.out j e; have h2 := HXB.out j hj; omega)); have HW31 := Lib.hid (OwB.keptN (HW4.out.alloc _) hg (fun j hj e => by have h1 := OwB.blk HW4.out j hj; have h2 := HXB.out j e; omega)); clear ho hb hg hob))
                  rw [List.length_append, hlX] at hl31
                  simp only [List.length_cons, List.length_nil] at hl31
                  have hlB : ((n31 : Int) == (nx : Int) + 3) = true := by simp; omega
                  have hlBn : (n31 == nx + 3) = true := by simp; omega
                  have CZ := Lib.hid (read_any HD31.out HKD.out 0)
                  rw [RD0.out] at CZ
                  dsimp only at CZ
                  clear hl31 hend hlt4 hlX
                  refine CZ.out.mono ?_
                  rintro e w32 ⟨A32, n32, c32, rfl, ho, hb⟩
                  have HB32 := Lib.hid (HB31.out.trans (hb.mono HB31.out.size))
                  have HD32 := Lib.hid (HD31.out.below hb)
                  have HQ32 := Lib.hid (HQ31.out.below hb)
                  have HW32 := Lib.hid (HW31.out.below hb)
                  have HZ32 := Lib.hid ho
                  have CU := Lib.hid (read_any HQ32.out HKQ.out 0)
                  rw [RQ0.out] at CU
                  dsimp only at CU
                  clear ho hb
                  go_wp2_with fail
                  refine CU.out.mono ?_
                  rintro e w33 ⟨A33, n33, c33, rfl, ho, hb⟩
                  have HB33 := Lib.hid (HB32.out.trans (hb.mono HB32.out.size))
                  have HD33 := Lib.hid (HD32.out.below hb)
                  have HQ33 := Lib.hid (HQ32.out.below hb)
                  have HW33 := Lib.hid (HW32.out.below hb)
                  have HZ33 := Lib.hid (HZ32.out.below hb)
                  have HU33 := Lib.hid ho
                  have CV := Lib.hid (read_any HQ33.out HKQ.out 1)
                  rw [RQ1.out] at CV
                  dsimp only at CV
                  clear ho hb
                  go_wp2_with fail
                  refine CV.out.mono ?_
                  rintro e w34 ⟨A34, n34, c34, rfl, ho, hb⟩
                  have HB34 := Lib.hid (HB33.out.trans (hb.mono HB33.out.size))
                  have HD34 := Lib.hid (HD33.out.below hb)
                  have HU34 := Lib.hid (HU33.out.below hb)
                  have HV34 := Lib.hid ho
                  have CS34 := Lib.hid (same_any A32 n32 c32 (xs ++ ys) A22 n22 c22 (xs ++ ys) w34 (HZ33.out.below hb).rd (HW33.out.below hb).rd)
                  rw [eqL_self] at CS34
                  clear ho hb
                  go_wp2_with fail
                  refine CS34.out.mono ?_
                  rintro e w35 ⟨rfl, hd⟩
                  have hb := hd.below
                  have HB35 := Lib.hid (HB34.out.trans (hb.mono HB34.out.size))
                  have HD35 := Lib.hid (HD34.out.below hb)
                  have HU35 := Lib.hid (HU34.out.below hb)
                  have HV35 := Lib.hid (HV34.out.below hb)
                  have CF := Lib.hid (safe_any HD35.out HKD.out 1)
                  rw [RD1.out] at CF
                  clear hd hb
                  go_wp2_with fail
                  refine CF.out.mono ?_
                  rintro e w36 ⟨A36, n36, c36, rfl, ho, hb⟩
                  have HB36 := Lib.hid (HB35.out.trans (hb.mono HB35.out.size))
                  have HU36 := Lib.hid (HU35.out.below hb)
                  have HV36 := Lib.hid (HV35.out.below hb)
                  have CS36 := Lib.hid (same_any A36 n36 c36 ys A' m c' ys w36 ho.rd (HR'.out.below HB36.out))
                  rw [eqL_self] at CS36
                  clear ho hb
                  go_wp2_with fail
                  refine CS36.out.mono ?_
                  rintro e w37 ⟨rfl, hd⟩
                  have hb := hd.below
                  have HB37 := Lib.hid (HB36.out.trans (hb.mono HB36.out.size))
                  have HV37 := Lib.hid (HV36.out.below hb)
                  have CS37 := Lib.hid (same_any A33 n33 c33 xs A n c xs w37 (HU36.out.below hb).rd (HR.out.below HB37.out))
                  rw [eqL_self] at CS37
                  clear hd hb
                  go_wp2_with fail
                  refine CS37.out.mono ?_
                  rintro e w38 ⟨rfl, hd⟩
                  have hb := hd.below
                  have HB38 := Lib.hid (HB37.out.trans (hb.mono HB37.out.size))
                  have CS38 := Lib.hid (same_any A34 n34 c34 ys A' m c' ys w38 (HV37.out.below hb).rd (HR'.out.below HB38.out))
                  rw [eqL_self] at CS38
                  clear hd hb
                  go_wp2_with fail
                  refine CS38.out.mono ?_
                  rintro e w39 ⟨rfl, hd⟩
                  have HB39 := Lib.hid (HB38.out.trans (hd.below.mono HB38.out.size))
                  clear hd
                  go_wp2
                  go_ret
                  exact ⟨rfl, HB39.out⟩
end Go.Proofs.Ytbmdglbhmianjaa.diskl5
