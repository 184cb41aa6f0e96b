/- The walk of the law DiskFiles. -/
import Derived.Test.YtbmdglbhmianjaaDiskFilesP
set_option linter.unusedVariables false
set_option linter.unusedSimpArgs false
namespace Go.Proofs.Ytbmdglbhmianjaa.diskl3
open Go.RowKit Go.Proofs.YtbmdglbhmianjaaW.PrintWords Go.Proofs.Ytbmdglbhmianjaa.base Go.Proofs.Ytbmdglbhmianjaa.mem Go.Proofs.Ytbmdglbhmianjaa.keep Go.Proofs.Ytbmdglbhmianjaa.samew Go.Proofs.Ytbmdglbhmianjaa.diskp Go.Proofs.Ytbmdglbhmianjaa.diskr Go.Proofs.Ytbmdglbhmianjaa.diskw Go.Proofs.Ytbmdglbhmianjaa.clone Go.Proofs.Ytbmdglbhmianjaa.ops Go.Proofs.Ytbmdglbhmianjaa.filesp

set_option maxHeartbeats 8000000 in
set_option maxRecDepth 100000 in
theorem filesLaw (A1 : Option Addr) (n1 c1 : Nat) (xs1 : List Int) (A2 : Option Addr) (n2 c2 : Nat) (xs2 : List Int) (A : Option Addr) (n c : Nat) (os : List O) (w : World) (hr1 : RdB w A1 n1 xs1) (hc1 : n1 ≤ c1) (hz1 : n1 + 1 ≤ 1048576) (hr2 : RdB w A2 n2 xs2) (hc2 : n2 ≤ c2) (hz2 : n2 + 1 ≤ 1048576) (hr : RdO w A n os) (hc : n ≤ c) (hz : sumB os + n + 1 ≤ 1048576) :
    Calls Try.prog 6 #[.slice A1 n1 c1, .slice A2 n2 c2, .slice A n c] w fun e w' => e = .returned (.bool true) ∧ Below w.heap.size w w' := by
  have HR := Lib.hid hr
  have HR1 := Lib.hid hr1
  have HR2 := Lib.hid hr2
  have hln := hr.len
  have hl1 := hr1.len
  have hl2 := hr2.len
  have HNIL : Hid (∀ W : World, RdB W none 0 []) := Lib.hid fun W => ⟨⟨rfl, by omega, fun h => absurd h (by omega)⟩, By_of _ (by simp)⟩
  clear hr hr1 hr2
  go_enter Try.func6, Try.ntmps6
  go_wp2_with fail
  refine (wakes_any w).mono ?_
  rintro e w1 ⟨rfl, hb1⟩
  have HB1 := Lib.hid hb1
  have hs1 := hb1.size
  have CL1 := Lib.hid (load_any A1 n1 c1 xs1 A2 n2 c2 xs2 w1 (HR1.out.below hb1) (by omega) (HR2.out.below hb1) (by omega))
  clear hb1
  go_wp2_with fail
  refine CL1.out.mono ?_
  rintro e w2 ⟨p, cs, rfl, hd2, hb2⟩
  have HB2 := Lib.hid (HB1.out.trans (hb2.mono hs1))
  have HD2 := Lib.hid hd2
  have hs2 := HB2.out.size
  have hs12 := hb2.size
  have CL2 := Lib.hid (load_any A1 n1 c1 xs1 none 0 0 [] w2 (HR1.out.below HB2.out) (by omega) (HNIL.out w2) (by omega))
  clear hb2 hd2
  go_wp2_with fail
  refine CL2.out.mono ?_
  rintro e w3 ⟨po, co, rfl, hd3, hb3⟩
  have HB3 := Lib.hid (HB2.out.trans (hb3.mono hs2))
  have HD3 := Lib.hid (HD2.out.below hb3)
  have HO3 := Lib.hid (hd3.less hs12)
  have HDJ3 : Hid (∀ g, Ft p cs g → ¬ Ft po co g) := Lib.hid fun g hg hq => by
    have h1 := (HD2.out.ft hg).2
    have h2 := (hd3.ft hq).1
    omega
  have HREL3 : Hid (Rel (diskp.load xs1 xs2) (diskp.load xs1 [])) := Lib.hid ⟨rfl, rfl, rfl, rfl, rfl⟩
  have HK3 : Hid (Ok (diskp.load xs1 xs2) (n1 + n2 + sumB (os.take 0)) 0) := Lib.hid ((Ok.load xs1 xs2).more (by simp [sumB]; omega) (by omega))
  have HKO3 : Hid (Ok (diskp.load xs1 []) (n1 + n2 + sumB (os.take 0)) 0) := Lib.hid ((Ok.load xs1 []).more (by simp [sumB]; omega) (by omega))
  clear hb3 hd3 hs12
  generalize diskp.load xs1 xs2 = d0 at *
  generalize diskp.load xs1 [] = o0 at *
  go_wp2
  go_loopw [30] (fun li wr => ∃ (i : Nat) (cr cq : Nat → Sl) (d o : D), i ≤ n ∧ li = .int .i64 i ∧ Aside0 (DAt wr w1.heap.size p cr d) ∧ Aside0 (DAt wr w1.heap.size po cq o) ∧ Aside0 (∀ g, Ft p cr g → ¬ Ft po cq g) ∧ Aside0 (Rel d o) ∧ Aside0 (Ok d (n1 + n2 + sumB (os.take i)) i) ∧ Aside0 (Ok o (n1 + n2 + sumB (os.take i)) i) ∧ Aside0 (Below w.heap.size w wr)) (fun li _ => n - (intOf li).toNat)
  case atStart => exact ⟨0, cs, co, _, _, by omega, rfl, ⟨HD3.out⟩, ⟨HO3.out⟩, ⟨HDJ3.out⟩, ⟨HREL3.out⟩, ⟨HK3.out⟩, ⟨HKO3.out⟩, ⟨HB3.out⟩⟩
  case round =>
    obtain ⟨i, cr, cq, d, o, hi, rfl, HD, HO, HDJ, HREL, HK, HKO, HB⟩ := hrel
    have hs := HB.out.size
    by_cases hlt : i < n
    · have hlg : i < os.length := by rw [hln]; exact hlt
      obtain ⟨b0, off, e0, hall⟩ := HR.out.at_ (by omega)
      have hat := (hall i hlt).below HB.out
      clear hall
      subst e0
      have hmem := getD_memO os i hlg
      have hq := HR.out.ok _ hmem
      have hrw := HR.out.rd _ hmem
      have hrd := hrw.below HB.out
      have hsm : sumB (os.take (i + 1)) = sumB (os.take i) + (os.getD i nilO).ys.length := by rw [take_snocO os i hlg, sumB_snoc]
      have hsl := sumB_take os (i + 1)
      obtain ⟨q, hqe⟩ : ∃ q, os.getD i nilO = q := ⟨_, rfl⟩
      rw [hqe] at hat hq hrd hrw hsm
      clear hqe hmem hlg
      obtain ⟨kd, f, nn, k, A', m', c', ys⟩ := q
      obtain ⟨e0, e1, e2, e3, e4⟩ := hat
      obtain ⟨q0, q1, q2, q3, q4⟩ := hq
      dsimp only at e0 e1 e2 e3 e4 q0 q1 q2 q3 q4 hrd hrw hsm
      have hml := hrd.len
      have BA := Lib.hid (below_alloc (Below.refl wr.heap.size wr) (.cells #[.int .i64 kd, .int .i64 f, .int .i64 nn, .int .i64 k, .slice A' m' c'] 40))
      have HBX := Lib.hid (BoxO.new wr kd f nn k A' m' c')
      have HBA := Lib.hid (HB.out.trans (BA.out.mono HB.out.size))
      have HDA := Lib.hid (HD.out.below BA.out)
      have HOA := Lib.hid (HO.out.below BA.out)
      have HRQ := Lib.hid (hrd.below BA.out)
      have HRW := Lib.hid hrw
      clear hrw
      have HNF : Hid (¬ Ft p cr wr.heap.size) := Lib.hid fun e => Nat.lt_irrefl _ (HD.out.ft e).2
      have HFIT := Lib.hid (HK.out.fit (by omega) (by omega))
      have HFS := Lib.hid (HK.out.fits (m := m') (by omega))
      have HFITO := Lib.hid (HKO.out.fit (by omega) (by omega))
      have HFSO := Lib.hid (HKO.out.fits (m := m') (by omega))
      have HSM := Lib.hid (show sumB (os.take i) + ys.length ≤ 1048576 by omega)
      have hK1 := HK.out.do_ kd f (n := nn) (k := k) ys q2.2 q3
      have hKO1 := HKO.out.do_ kd f (n := nn) (k := k) ys q2.2 q3
      rw [Nat.add_assoc, ← hsm] at hK1 hKO1
      have HK1 := Lib.hid hK1
      have HKO1 := Lib.hid hKO1
      have HKM := Lib.hid (HK.out.more (S' := n1 + n2 + sumB (os.take (i + 1))) (N' := i + 1) (by omega) (by omega))
      have HKOM := Lib.hid (HKO.out.more (S' := n1 + n2 + sumB (os.take (i + 1))) (N' := i + 1) (by omega) (by omega))
      have HSL := Lib.hid (show n1 + n2 + sumB (os.take (i + 1)) ≤ 17592186044416 by omega)
      have HQ2 := Lib.hid q2
      have HQ3 := Lib.hid q3
      have CDO := Lib.hid (does_any HDA.out HFIT.out kd f nn k A' m' c' ys HRQ.out HFS.out HQ2.out HQ3.out)
      unfold opV at CDO
      obtain ⟨x0, x1, x2, x3, x4⟩ := HBX.out
      clear hrd hK1 hKO1 q0 q1 q2 q3 q4 hsm hsl
      by_cases h3 : kd = 3
      · have hb3 : (kd == 3) = true := by simp [h3]
        clear h3
        go_wp2
        go_roundw
        case rel => exact ⟨i + 1, cr, cq, d, o, by omega, by go_num, ⟨HDA.out⟩, ⟨HOA.out⟩, ⟨HDJ.out⟩, ⟨HREL.out⟩, ⟨HKM.out⟩, ⟨HKOM.out⟩, ⟨HBA.out⟩⟩
        case measure => simp [intOf]; omega
      · have hb3 : (kd == 3) = false := beq_eq_false_iff_ne.2 h3
        have H3 := Lib.hid h3
        clear h3
        by_cases hf0 : f = 0
        · subst hf0
          have HRB := Lib.hid (rel_both (f := 0) HREL.out H3.out (.inl rfl) nn k ys)
          generalize doR d kd 0 nn k ys = R at *
          obtain ⟨d1, out, r⟩ := R
          dsimp only at CDO HK1 HRB
          go_wp2_with fail
          refine CDO.out.mono ?_
          rintro e w5 ⟨A5, n5, c5, rfl, ho5, cs5, h5, s5⟩
          have HB5 := Lib.hid (HBA.out.trans (s5.bel.mono hs1))
          obtain ⟨x0, x1, x2, x3, x4⟩ := HBX.out.past HNF.out s5
          have H5 := Lib.hid h5
          have HO5 := Lib.hid (HOA.out.kept s5.keep (fun g hg e => HDJ.out g e hg))
          have HDJ5 := Lib.hid (disj_l HDJ.out s5 HOA.out)
          have HRQ5 := Lib.hid (HRW.out.below HB5.out)
          clear ho5 h5 s5
          have CDO2 := Lib.hid (does_any HO5.out HFITO.out kd 0 nn k A' m' c' ys HRQ5.out HFSO.out HQ2.out HQ3.out)
          unfold opV at CDO2
          generalize doR o kd 0 nn k ys = R at *
          obtain ⟨o1, out2, r2⟩ := R
          dsimp only at CDO2 HKO1 HRB
          go_wp2_with fail
          refine CDO2.out.mono ?_
          rintro e w6 ⟨A6, n6, c6, rfl, ho6, cs6, h6, s6⟩
          have HB6 := Lib.hid (HB5.out.trans (s6.bel.mono hs1))
          have HO6 := Lib.hid h6
          have H6 := Lib.hid (H5.out.kept s6.keep (fun g hg e => HDJ5.out g hg e))
          have HDJ6 := Lib.hid (disj_r HDJ5.out s6 H5.out)
          clear ho6 h6 s6
          have hsb := Lib.hid (HK1.out.fit HSL.out (by omega)).b
          have hsbo := Lib.hid (HKO1.out.fit HSL.out (by omega)).b
          have hrr := rel_read HRB.out
          have hoff := HRB.out.off
          have CR0 := Lib.hid (read_any H6.out hsb.out 0)
          have HRE := Lib.hid hrr.1
          have HSE := Lib.hid hrr.2
          clear hrr
          generalize readR d1 0 = R0 at *
          obtain ⟨X0, r0⟩ := R0
          dsimp only at CR0 HRE
          have hrb : (r0 != r0) = false := by simp
          go_wp2_with fail
          refine CR0.out.mono ?_
          rintro e w7 ⟨A7, n7, c7, rfl, ho7, hb7⟩
          have HB7 := Lib.hid (HB6.out.trans (hb7.mono HB6.out.size))
          have H7 := Lib.hid (H6.out.below hb7)
          have HO7 := Lib.hid (HO6.out.below hb7)
          have HX7 := Lib.hid ho7.rd
          have CR1 := Lib.hid (read_any HO7.out hsbo.out 0)
          rw [← HRE.out] at CR1
          dsimp only at CR1
          clear ho7 hb7
          go_wp2_with fail
          refine CR1.out.mono ?_
          rintro e w8 ⟨A8, n8, c8, rfl, ho8, hb8⟩
          have HB8 := Lib.hid (HB7.out.trans (hb8.mono HB7.out.size))
          have H8 := Lib.hid (H7.out.below hb8)
          have HO8 := Lib.hid (HO7.out.below hb8)
          have CS8 := Lib.hid (same_any A7 n7 c7 _ A8 n8 c8 _ w8 (HX7.out.below hb8) ho8.rd)
          rw [eqL_self] at CS8
          clear ho8 hb8
          go_wp2_with fail
          refine CS8.out.mono ?_
          rintro e w9 ⟨rfl, hd9⟩
          have hb9 := hd9.below
          have HB9 := Lib.hid (HB8.out.trans (hb9.mono HB8.out.size))
          have H9 := Lib.hid (H8.out.below hb9)
          have HO9 := Lib.hid (HO8.out.below hb9)
          have CSF := Lib.hid (safe_any H9.out hsb.out 0)
          clear hd9 hb9
          go_wp2_with fail
          refine CSF.out.mono ?_
          rintro e w10 ⟨A10, n10, c10, rfl, ho10, hb10⟩
          have HB10 := Lib.hid (HB9.out.trans (hb10.mono HB9.out.size))
          have H10 := Lib.hid (H9.out.below hb10)
          have HO10 := Lib.hid (HO9.out.below hb10)
          have HX10 := Lib.hid ho10.rd
          have CSF2 := Lib.hid (safe_any HO10.out hsbo.out 0)
          clear ho10 hb10
          go_wp2_with fail
          refine CSF2.out.mono ?_
          rintro e w11 ⟨A11, n11, c11, rfl, ho11, hb11⟩
          have HB11 := Lib.hid (HB10.out.trans (hb11.mono HB10.out.size))
          have H11 := Lib.hid (H10.out.below hb11)
          have HO11 := Lib.hid (HO10.out.below hb11)
          have CS11 := Lib.hid (same_any A10 n10 c10 _ A11 n11 c11 _ w11 (HX10.out.below hb11) ho11.rd)
          rw [HSE.out, eqL_self] at CS11
          clear ho11 hb11
          go_wp2_with fail
          refine CS11.out.mono ?_
          rintro e w12 ⟨rfl, hd12⟩
          have hb12 := hd12.below
          have HB12 := Lib.hid (HB11.out.trans (hb12.mono HB11.out.size))
          have H12 := Lib.hid (H11.out.below hb12)
          have HO12 := Lib.hid (HO11.out.below hb12)
          have CD1 := Lib.hid (down_any H12.out)
          have CD2 := Lib.hid (down_any HO12.out)
          rw [← hoff] at CD2
          have hob : (d1.off != d1.off) = false := by simp
          clear hd12 hb12 hoff
          go_wp2_with fail
          refine CD1.out.mono ?_
          rintro e w' ⟨rfl, rfl⟩
          go_wp2_with fail
          refine CD2.out.mono ?_
          rintro e w' ⟨rfl, rfl⟩
          go_wp2
          go_roundw
          case rel => exact ⟨i + 1, _, _, _, _, by omega, by go_num, ⟨H12.out⟩, ⟨HO12.out⟩, ⟨HDJ6.out⟩, ⟨HRB.out⟩, ⟨HK1.out⟩, ⟨HKO1.out⟩, ⟨HB12.out⟩⟩
          case measure => simp [intOf]; omega
        · have hbf0 : (f == 0) = false := beq_eq_false_iff_ne.2 hf0
          have hbf0' : (f != 0) = true := by simp [hf0]
          by_cases hf1 : f = 1
          · subst hf1
            clear hbf0 hbf0' hf0
            by_cases h4 : kd = 4
            · have hb4 : (kd == 4) = true := by simp [h4]
              have HRB := Lib.hid (rel_both (f := 1) HREL.out H3.out (.inr (.inl h4)) nn k ys)
              clear h4
              generalize doR d kd 1 nn k ys = R at *
              obtain ⟨d1, out, r⟩ := R
              dsimp only at CDO HK1 HRB
              go_wp2_with fail
              refine CDO.out.mono ?_
              rintro e w5 ⟨A5, n5, c5, rfl, ho5, cs5, h5, s5⟩
              have HB5 := Lib.hid (HBA.out.trans (s5.bel.mono hs1))
              obtain ⟨x0, x1, x2, x3, x4⟩ := HBX.out.past HNF.out s5
              have H5 := Lib.hid h5
              have HO5 := Lib.hid (HOA.out.kept s5.keep (fun g hg e => HDJ.out g e hg))
              have HDJ5 := Lib.hid (disj_l HDJ.out s5 HOA.out)
              have HRQ5 := Lib.hid (HRW.out.below HB5.out)
              clear ho5 h5 s5
              have CDO2 := Lib.hid (does_any HO5.out HFITO.out kd 1 nn k A' m' c' ys HRQ5.out HFSO.out HQ2.out HQ3.out)
              unfold opV at CDO2
              generalize doR o kd 1 nn k ys = R at *
              obtain ⟨o1, out2, r2⟩ := R
              dsimp only at CDO2 HKO1 HRB
              go_wp2_with fail
              refine CDO2.out.mono ?_
              rintro e w6 ⟨A6, n6, c6, rfl, ho6, cs6, h6, s6⟩
              have HB6 := Lib.hid (HB5.out.trans (s6.bel.mono hs1))
              have HO6 := Lib.hid h6
              have H6 := Lib.hid (H5.out.kept s6.keep (fun g hg e => HDJ5.out g hg e))
              have HDJ6 := Lib.hid (disj_r HDJ5.out s6 H5.out)
              clear ho6 h6 s6
              have hsb := Lib.hid (HK1.out.fit HSL.out (by omega)).b
              have hsbo := Lib.hid (HKO1.out.fit HSL.out (by omega)).b
              have hrr := rel_read HRB.out
              have hoff := HRB.out.off
              have CR0 := Lib.hid (read_any H6.out hsb.out 0)
              have HRE := Lib.hid hrr.1
              have HSE := Lib.hid hrr.2
              clear hrr
              generalize readR d1 0 = R0 at *
              obtain ⟨X0, r0⟩ := R0
              dsimp only at CR0 HRE
              have hrb : (r0 != r0) = false := by simp
              go_wp2_with fail
              refine CR0.out.mono ?_
              rintro e w7 ⟨A7, n7, c7, rfl, ho7, hb7⟩
              have HB7 := Lib.hid (HB6.out.trans (hb7.mono HB6.out.size))
              have H7 := Lib.hid (H6.out.below hb7)
              have HO7 := Lib.hid (HO6.out.below hb7)
              have HX7 := Lib.hid ho7.rd
              have CR1 := Lib.hid (read_any HO7.out hsbo.out 0)
              rw [← HRE.out] at CR1
              dsimp only at CR1
              clear ho7 hb7
              go_wp2_with fail
              refine CR1.out.mono ?_
              rintro e w8 ⟨A8, n8, c8, rfl, ho8, hb8⟩
              have HB8 := Lib.hid (HB7.out.trans (hb8.mono HB7.out.size))
              have H8 := Lib.hid (H7.out.below hb8)
              have HO8 := Lib.hid (HO7.out.below hb8)
              have CS8 := Lib.hid (same_any A7 n7 c7 _ A8 n8 c8 _ w8 (HX7.out.below hb8) ho8.rd)
              rw [eqL_self] at CS8
              clear ho8 hb8
              go_wp2_with fail
              refine CS8.out.mono ?_
              rintro e w9 ⟨rfl, hd9⟩
              have hb9 := hd9.below
              have HB9 := Lib.hid (HB8.out.trans (hb9.mono HB8.out.size))
              have H9 := Lib.hid (H8.out.below hb9)
              have HO9 := Lib.hid (HO8.out.below hb9)
              have CSF := Lib.hid (safe_any H9.out hsb.out 0)
              clear hd9 hb9
              go_wp2_with fail
              refine CSF.out.mono ?_
              rintro e w10 ⟨A10, n10, c10, rfl, ho10, hb10⟩
              have HB10 := Lib.hid (HB9.out.trans (hb10.mono HB9.out.size))
              have H10 := Lib.hid (H9.out.below hb10)
              have HO10 := Lib.hid (HO9.out.below hb10)
              have HX10 := Lib.hid ho10.rd
              have CSF2 := Lib.hid (safe_any HO10.out hsbo.out 0)
              clear ho10 hb10
              go_wp2_with fail
              refine CSF2.out.mono ?_
              rintro e w11 ⟨A11, n11, c11, rfl, ho11, hb11⟩
              have HB11 := Lib.hid (HB10.out.trans (hb11.mono HB10.out.size))
              have H11 := Lib.hid (H10.out.below hb11)
              have HO11 := Lib.hid (HO10.out.below hb11)
              have CS11 := Lib.hid (same_any A10 n10 c10 _ A11 n11 c11 _ w11 (HX10.out.below hb11) ho11.rd)
              rw [HSE.out, eqL_self] at CS11
              clear ho11 hb11
              go_wp2_with fail
              refine CS11.out.mono ?_
              rintro e w12 ⟨rfl, hd12⟩
              have hb12 := hd12.below
              have HB12 := Lib.hid (HB11.out.trans (hb12.mono HB11.out.size))
              have H12 := Lib.hid (H11.out.below hb12)
              have HO12 := Lib.hid (HO11.out.below hb12)
              have CD1 := Lib.hid (down_any H12.out)
              have CD2 := Lib.hid (down_any HO12.out)
              rw [← hoff] at CD2
              have hob : (d1.off != d1.off) = false := by simp
              clear hd12 hb12 hoff
              go_wp2_with fail
              refine CD1.out.mono ?_
              rintro e w' ⟨rfl, rfl⟩
              go_wp2_with fail
              refine CD2.out.mono ?_
              rintro e w' ⟨rfl, rfl⟩
              go_wp2
              go_roundw
              case rel => exact ⟨i + 1, _, _, _, _, by omega, by go_num, ⟨H12.out⟩, ⟨HO12.out⟩, ⟨HDJ6.out⟩, ⟨HRB.out⟩, ⟨HK1.out⟩, ⟨HKO1.out⟩, ⟨HB12.out⟩⟩
              case measure => simp [intOf]; omega
            · have hb4 : (kd == 4) = false := beq_eq_false_iff_ne.2 h4
              by_cases h5 : kd = 5
              · have hb5 : (kd == 5) = true := by simp [h5]
                have HRB := Lib.hid (rel_both (f := 1) HREL.out H3.out (.inr (.inr h5)) nn k ys)
                clear h4 h5
                generalize doR d kd 1 nn k ys = R at *
                obtain ⟨d1, out, r⟩ := R
                dsimp only at CDO HK1 HRB
                go_wp2_with fail
                refine CDO.out.mono ?_
                rintro e w5 ⟨A5, n5, c5, rfl, ho5, cs5, h5, s5⟩
                have HB5 := Lib.hid (HBA.out.trans (s5.bel.mono hs1))
                obtain ⟨x0, x1, x2, x3, x4⟩ := HBX.out.past HNF.out s5
                have H5 := Lib.hid h5
                have HO5 := Lib.hid (HOA.out.kept s5.keep (fun g hg e => HDJ.out g e hg))
                have HDJ5 := Lib.hid (disj_l HDJ.out s5 HOA.out)
                have HRQ5 := Lib.hid (HRW.out.below HB5.out)
                clear ho5 h5 s5
                have CDO2 := Lib.hid (does_any HO5.out HFITO.out kd 1 nn k A' m' c' ys HRQ5.out HFSO.out HQ2.out HQ3.out)
                unfold opV at CDO2
                generalize doR o kd 1 nn k ys = R at *
                obtain ⟨o1, out2, r2⟩ := R
                dsimp only at CDO2 HKO1 HRB
                go_wp2_with fail
                refine CDO2.out.mono ?_
                rintro e w6 ⟨A6, n6, c6, rfl, ho6, cs6, h6, s6⟩
                have HB6 := Lib.hid (HB5.out.trans (s6.bel.mono hs1))
                have HO6 := Lib.hid h6
                have H6 := Lib.hid (H5.out.kept s6.keep (fun g hg e => HDJ5.out g hg e))
                have HDJ6 := Lib.hid (disj_r HDJ5.out s6 H5.out)
                clear ho6 h6 s6
                have hsb := Lib.hid (HK1.out.fit HSL.out (by omega)).b
                have hsbo := Lib.hid (HKO1.out.fit HSL.out (by omega)).b
                have hrr := rel_read HRB.out
                have hoff := HRB.out.off
                have CR0 := Lib.hid (read_any H6.out hsb.out 0)
                have HRE := Lib.hid hrr.1
                have HSE := Lib.hid hrr.2
                clear hrr
                generalize readR d1 0 = R0 at *
                obtain ⟨X0, r0⟩ := R0
                dsimp only at CR0 HRE
                have hrb : (r0 != r0) = false := by simp
                go_wp2_with fail
                refine CR0.out.mono ?_
                rintro e w7 ⟨A7, n7, c7, rfl, ho7, hb7⟩
                have HB7 := Lib.hid (HB6.out.trans (hb7.mono HB6.out.size))
                have H7 := Lib.hid (H6.out.below hb7)
                have HO7 := Lib.hid (HO6.out.below hb7)
                have HX7 := Lib.hid ho7.rd
                have CR1 := Lib.hid (read_any HO7.out hsbo.out 0)
                rw [← HRE.out] at CR1
                dsimp only at CR1
                clear ho7 hb7
                go_wp2_with fail
                refine CR1.out.mono ?_
                rintro e w8 ⟨A8, n8, c8, rfl, ho8, hb8⟩
                have HB8 := Lib.hid (HB7.out.trans (hb8.mono HB7.out.size))
                have H8 := Lib.hid (H7.out.below hb8)
                have HO8 := Lib.hid (HO7.out.below hb8)
                have CS8 := Lib.hid (same_any A7 n7 c7 _ A8 n8 c8 _ w8 (HX7.out.below hb8) ho8.rd)
                rw [eqL_self] at CS8
                clear ho8 hb8
                go_wp2_with fail
                refine CS8.out.mono ?_
                rintro e w9 ⟨rfl, hd9⟩
                have hb9 := hd9.below
                have HB9 := Lib.hid (HB8.out.trans (hb9.mono HB8.out.size))
                have H9 := Lib.hid (H8.out.below hb9)
                have HO9 := Lib.hid (HO8.out.below hb9)
                have CSF := Lib.hid (safe_any H9.out hsb.out 0)
                clear hd9 hb9
                go_wp2_with fail
                refine CSF.out.mono ?_
                rintro e w10 ⟨A10, n10, c10, rfl, ho10, hb10⟩
                have HB10 := Lib.hid (HB9.out.trans (hb10.mono HB9.out.size))
                have H10 := Lib.hid (H9.out.below hb10)
                have HO10 := Lib.hid (HO9.out.below hb10)
                have HX10 := Lib.hid ho10.rd
                have CSF2 := Lib.hid (safe_any HO10.out hsbo.out 0)
                clear ho10 hb10
                go_wp2_with fail
                refine CSF2.out.mono ?_
                rintro e w11 ⟨A11, n11, c11, rfl, ho11, hb11⟩
                have HB11 := Lib.hid (HB10.out.trans (hb11.mono HB10.out.size))
                have H11 := Lib.hid (H10.out.below hb11)
                have HO11 := Lib.hid (HO10.out.below hb11)
                have CS11 := Lib.hid (same_any A10 n10 c10 _ A11 n11 c11 _ w11 (HX10.out.below hb11) ho11.rd)
                rw [HSE.out, eqL_self] at CS11
                clear ho11 hb11
                go_wp2_with fail
                refine CS11.out.mono ?_
                rintro e w12 ⟨rfl, hd12⟩
                have hb12 := hd12.below
                have HB12 := Lib.hid (HB11.out.trans (hb12.mono HB11.out.size))
                have H12 := Lib.hid (H11.out.below hb12)
                have HO12 := Lib.hid (HO11.out.below hb12)
                have CD1 := Lib.hid (down_any H12.out)
                have CD2 := Lib.hid (down_any HO12.out)
                rw [← hoff] at CD2
                have hob : (d1.off != d1.off) = false := by simp
                clear hd12 hb12 hoff
                go_wp2_with fail
                refine CD1.out.mono ?_
                rintro e w' ⟨rfl, rfl⟩
                go_wp2_with fail
                refine CD2.out.mono ?_
                rintro e w' ⟨rfl, rfl⟩
                go_wp2
                go_roundw
                case rel => exact ⟨i + 1, _, _, _, _, by omega, by go_num, ⟨H12.out⟩, ⟨HO12.out⟩, ⟨HDJ6.out⟩, ⟨HRB.out⟩, ⟨HK1.out⟩, ⟨HKO1.out⟩, ⟨HB12.out⟩⟩
                case measure => simp [intOf]; omega
              · have hb5 : (kd == 5) = false := beq_eq_false_iff_ne.2 h5
                have HRB := Lib.hid (rel_one HREL.out H3.out h4 h5 nn k ys)
                clear h4 h5
                generalize doR d kd 1 nn k ys = R at *
                obtain ⟨d1, out, r⟩ := R
                dsimp only at CDO HK1 HRB
                go_wp2_with fail
                refine CDO.out.mono ?_
                rintro e w5 ⟨A5, n5, c5, rfl, ho5, cs5, h5, s5⟩
                have HB5 := Lib.hid (HBA.out.trans (s5.bel.mono hs1))
                obtain ⟨x0, x1, x2, x3, x4⟩ := HBX.out.past HNF.out s5
                have H5 := Lib.hid h5
                have HO5 := Lib.hid (HOA.out.kept s5.keep (fun g hg e => HDJ.out g e hg))
                have HDJ5 := Lib.hid (disj_l HDJ.out s5 HOA.out)
                have HRQ5 := Lib.hid (HRW.out.below HB5.out)
                clear ho5 h5 s5
                have HB6 := HB5
                have HO6 := HO5
                have H6 := H5
                have HDJ6 := HDJ5
                have HKO1 := HKOM
                have hsb := Lib.hid (HK1.out.fit HSL.out (by omega)).b
                have hsbo := Lib.hid (HKO1.out.fit HSL.out (by omega)).b
                have hrr := rel_read HRB.out
                have hoff := HRB.out.off
                have CR0 := Lib.hid (read_any H6.out hsb.out 0)
                have HRE := Lib.hid hrr.1
                have HSE := Lib.hid hrr.2
                clear hrr
                generalize readR d1 0 = R0 at *
                obtain ⟨X0, r0⟩ := R0
                dsimp only at CR0 HRE
                have hrb : (r0 != r0) = false := by simp
                go_wp2_with fail
                refine CR0.out.mono ?_
                rintro e w7 ⟨A7, n7, c7, rfl, ho7, hb7⟩
                have HB7 := Lib.hid (HB6.out.trans (hb7.mono HB6.out.size))
                have H7 := Lib.hid (H6.out.below hb7)
                have HO7 := Lib.hid (HO6.out.below hb7)
                have HX7 := Lib.hid ho7.rd
                have CR1 := Lib.hid (read_any HO7.out hsbo.out 0)
                rw [← HRE.out] at CR1
                dsimp only at CR1
                clear ho7 hb7
                go_wp2_with fail
                refine CR1.out.mono ?_
                rintro e w8 ⟨A8, n8, c8, rfl, ho8, hb8⟩
                have HB8 := Lib.hid (HB7.out.trans (hb8.mono HB7.out.size))
                have H8 := Lib.hid (H7.out.below hb8)
                have HO8 := Lib.hid (HO7.out.below hb8)
                have CS8 := Lib.hid (same_any A7 n7 c7 _ A8 n8 c8 _ w8 (HX7.out.below hb8) ho8.rd)
                rw [eqL_self] at CS8
                clear ho8 hb8
                go_wp2_with fail
                refine CS8.out.mono ?_
                rintro e w9 ⟨rfl, hd9⟩
                have hb9 := hd9.below
                have HB9 := Lib.hid (HB8.out.trans (hb9.mono HB8.out.size))
                have H9 := Lib.hid (H8.out.below hb9)
                have HO9 := Lib.hid (HO8.out.below hb9)
                have CSF := Lib.hid (safe_any H9.out hsb.out 0)
                clear hd9 hb9
                go_wp2_with fail
                refine CSF.out.mono ?_
                rintro e w10 ⟨A10, n10, c10, rfl, ho10, hb10⟩
                have HB10 := Lib.hid (HB9.out.trans (hb10.mono HB9.out.size))
                have H10 := Lib.hid (H9.out.below hb10)
                have HO10 := Lib.hid (HO9.out.below hb10)
                have HX10 := Lib.hid ho10.rd
                have CSF2 := Lib.hid (safe_any HO10.out hsbo.out 0)
                clear ho10 hb10
                go_wp2_with fail
                refine CSF2.out.mono ?_
                rintro e w11 ⟨A11, n11, c11, rfl, ho11, hb11⟩
                have HB11 := Lib.hid (HB10.out.trans (hb11.mono HB10.out.size))
                have H11 := Lib.hid (H10.out.below hb11)
                have HO11 := Lib.hid (HO10.out.below hb11)
                have CS11 := Lib.hid (same_any A10 n10 c10 _ A11 n11 c11 _ w11 (HX10.out.below hb11) ho11.rd)
                rw [HSE.out, eqL_self] at CS11
                clear ho11 hb11
                go_wp2_with fail
                refine CS11.out.mono ?_
                rintro e w12 ⟨rfl, hd12⟩
                have hb12 := hd12.below
                have HB12 := Lib.hid (HB11.out.trans (hb12.mono HB11.out.size))
                have H12 := Lib.hid (H11.out.below hb12)
                have HO12 := Lib.hid (HO11.out.below hb12)
                have CD1 := Lib.hid (down_any H12.out)
                have CD2 := Lib.hid (down_any HO12.out)
                rw [← hoff] at CD2
                have hob : (d1.off != d1.off) = false := by simp
                clear hd12 hb12 hoff
                go_wp2_with fail
                refine CD1.out.mono ?_
                rintro e w' ⟨rfl, rfl⟩
                go_wp2_with fail
                refine CD2.out.mono ?_
                rintro e w' ⟨rfl, rfl⟩
                go_wp2
                go_roundw
                case rel => exact ⟨i + 1, _, _, _, _, by omega, by go_num, ⟨H12.out⟩, ⟨HO12.out⟩, ⟨HDJ6.out⟩, ⟨HRB.out⟩, ⟨HK1.out⟩, ⟨HKO1.out⟩, ⟨HB12.out⟩⟩
                case measure => simp [intOf]; omega
          · have hbf1 : (f != 1) = true := by simp [hf1]
            clear hf0 hf1
            go_wp2
            go_roundw
            case rel => exact ⟨i + 1, cr, cq, d, o, by omega, by go_num, ⟨HDA.out⟩, ⟨HOA.out⟩, ⟨HDJ.out⟩, ⟨HREL.out⟩, ⟨HKM.out⟩, ⟨HKOM.out⟩, ⟨HBA.out⟩⟩
            case measure => simp [intOf]; omega
    · go_wp2
      go_ret
      exact ⟨rfl, HB.out⟩
end Go.Proofs.Ytbmdglbhmianjaa.diskl3
