/- The walk of the law DiskSafe. -/
import Derived.Test.YtbmdglbhmianjaaDiskSafeP
import Derived.Test.YtbmdglbhmianjaaStepApp
set_option linter.unusedVariables false
set_option linter.unusedSimpArgs false
namespace Go.Proofs.Ytbmdglbhmianjaa.diskl4
open Go.RowKit Go.Proofs.YtbmdglbhmianjaaW.PrintWords Go.Proofs.Ytbmdglbhmianjaa.base Go.Proofs.Ytbmdglbhmianjaa.mem Go.Proofs.Ytbmdglbhmianjaa.keep Go.Proofs.Ytbmdglbhmianjaa.samew Go.Proofs.Ytbmdglbhmianjaa.diskp Go.Proofs.Ytbmdglbhmianjaa.diskr Go.Proofs.Ytbmdglbhmianjaa.diskw Go.Proofs.Ytbmdglbhmianjaa.clone Go.Proofs.Ytbmdglbhmianjaa.ops Go.Proofs.Ytbmdglbhmianjaa.filesp Go.Proofs.Ytbmdglbhmianjaa.safep

theorem read_on {d : D} (ho : d.off = false) : readR d 0 = (d.b 0 ++ d.b 1, 0) := by
  have h : rdy d 0 = 0 := by unfold rdy; rw [if_neg (by decide), ho]; rfl
  unfold readR
  rw [if_neg (by rw [h]; decide)]
  rfl
theorem read_off {d : D} (ho : d.off = true) : readR d 0 = ([], 40) := by
  have h : rdy d 0 = 40 := by unfold rdy; rw [if_neg (by decide), ho]; rfl
  unfold readR
  rw [if_pos (by rw [h]; decide), h]
set_option maxHeartbeats 8000000 in
set_option maxRecDepth 100000 in
theorem safeLaw (A1 : Option Addr) (n1 c1 : Nat) (xs1 : List Int) (A : Option Addr) (n c : Nat) (os : List O) (w : World) (hr1 : RdB w A1 n1 xs1) (hc1 : n1 ≤ c1) (hz1 : n1 + 1 ≤ 1048576) (hr : RdO w A n os) (hc : n ≤ c) (hz : sumB os + n + 1 ≤ 1048576) :
    Calls Try.prog 5 #[.slice A1 n1 c1, .slice A n c] w fun e w' => e = .returned (.bool true) ∧ Below w.heap.size w w' := by
  have HR := Lib.hid hr
  have HR1 := Lib.hid hr1
  have hln := hr.len
  have hl1 := hr1.len
  have HNIL : Hid (∀ W : World, RdB W none 0 []) := Lib.hid fun W => ⟨⟨rfl, by omega, fun h => absurd h (by omega)⟩, By_of _ (by simp)⟩
  clear hr hr1
  go_enter Try.func5, Try.ntmps5
  go_wp2_with fail
  refine (wakes_any w).mono ?_
  rintro e w1 ⟨rfl, hb1⟩
  have HB1 := Lib.hid hb1
  have hs1 := hb1.size
  have CL1 := Lib.hid (load_any A1 n1 c1 xs1 none 0 0 [] w1 (HR1.out.below hb1) (by omega) (HNIL.out w1) (by omega))
  clear hb1
  go_wp2_with fail
  refine CL1.out.mono ?_
  rintro e w2 ⟨p, cs, rfl, hd2, hb2⟩
  have HB2 := Lib.hid (HB1.out.trans (hb2.mono hs1))
  have HD2 := Lib.hid hd2
  have HK2 : Hid (Ok (diskp.load xs1 []) (n1 + sumB (os.take 0)) 0) := Lib.hid ((Ok.load xs1 []).more (by simp [sumB]; omega) (by omega))
  clear hb2 hd2
  generalize diskp.load xs1 [] = d0 at *
  go_wp2
  go_loopw [20] (fun li wr => ∃ (i : Nat) (cr : Nat → Sl) (d : D), i ≤ n ∧ li = .int .i64 i ∧ Aside0 (DAt wr w1.heap.size p cr d) ∧ Aside0 (Ok d (n1 + sumB (os.take i)) i) ∧ Aside0 (Below w.heap.size w wr)) (fun li _ => n - (intOf li).toNat)
  case atStart => exact ⟨0, cs, _, by omega, rfl, ⟨HD2.out⟩, ⟨HK2.out⟩, ⟨HB2.out⟩⟩
  case round =>
    obtain ⟨i, cr, d, hi, rfl, HD, HK, HB⟩ := hrel
    have hs := HB.out.size
    by_cases hlt : i < n
    · have hlg : i < os.length := by rw [hln]; exact hlt
      obtain ⟨b0, off, e0, hall⟩ := HR.out.at_ (by omega)
      have hat := (hall i hlt).below HB.out
      clear hall
      subst e0
      have hmem := getD_memO os i hlg
      have hq := HR.out.ok _ hmem
      have hrd := (HR.out.rd _ hmem).below HB.out
      have hsm : sumB (os.take (i + 1)) = sumB (os.take i) + (os.getD i nilO).ys.length := by rw [take_snocO os i hlg, sumB_snoc]
      have hsl := sumB_take os (i + 1)
      obtain ⟨q, hqe⟩ : ∃ q, os.getD i nilO = q := ⟨_, rfl⟩
      rw [hqe] at hat hq hrd hsm
      clear hqe hmem hlg
      obtain ⟨kd, f, nn, k, A', m', c', ys⟩ := q
      obtain ⟨e0, e1, e2, e3, e4⟩ := hat
      obtain ⟨q0, q1, q2, q3, q4⟩ := hq
      dsimp only at e0 e1 e2 e3 e4 q0 q1 q2 q3 q4 hrd hsm
      have hml := hrd.len
      have BA := Lib.hid (below_alloc (Below.refl wr.heap.size wr) (.cells #[.int .i64 kd, .int .i64 f, .int .i64 nn, .int .i64 k, .slice A' m' c'] 40))
      have HBX := Lib.hid (BoxO.new wr kd f nn k A' m' c')
      have HBA := Lib.hid (HB.out.trans (BA.out.mono HB.out.size))
      have HDA := Lib.hid (HD.out.below BA.out)
      have HRQ := Lib.hid (hrd.below BA.out)
      have HFT : Hid (∀ g, Ft p cr g → g < wr.heap.size) := Lib.hid fun g hg => (HD.out.ft hg).2
      have hfit := HK.out.fit (by omega) (by omega)
      have HSB := Lib.hid hfit.b
      have HFIT := Lib.hid hfit
      have HFS := Lib.hid (HK.out.fits (m := m') (by omega))
      have hK1 := HK.out.do_ kd f (n := nn) (k := k) ys q2.2 q3
      rw [Nat.add_assoc, ← hsm] at hK1
      have HK1 := Lib.hid hK1
      have HKM := Lib.hid (HK.out.more (S' := n1 + sumB (os.take (i + 1))) (N' := i + 1) (by omega) (by omega))
      have HSL := Lib.hid (show n1 + sumB (os.take (i + 1)) ≤ 17592186044416 by omega)
      have htt : (d.b 0).length + (d.b 1).length ≤ n1 + sumB (os.take i) := HK.out.s.1
      have HTT := Lib.hid (show (d.b 0).length + (d.b 1).length + m' ≤ 17592186044416 by omega)
      have HQ2 := Lib.hid q2
      have HQ3 := Lib.hid q3
      have HST : Hid (kd ≠ 2 → safep.Stays d (doR d kd f nn k ys).1 (if kd = 0 ∧ f = 0 then ys else [])) := Lib.hid fun h => stays d kd f nn k ys h
      have CSB := Lib.hid (safe_any HDA.out HSB.out 0)
      rw [show safeR d 0 = d.b 0 from rfl] at CSB
      have hsA := BA.out.size
      clear hrd hfit hK1 q0 q1 q2 q3 q4 hsm hsl htt
      cases ho : d.off
      · have HON := Lib.hid ho
        clear ho
        go_wp2_with fail
        refine CSB.out.mono ?_
        rintro e w3 ⟨A3, n3, c3, rfl, ho3, hb3⟩
        have HB3 := Lib.hid (HBA.out.trans (hb3.mono HBA.out.size))
        have HD3 := Lib.hid (HDA.out.below hb3)
        have HX3 := Lib.hid (HBX.out.below hb3)
        have HRQ3 := Lib.hid (HRQ.out.below hb3)
        have HBE3 := Lib.hid ho3
        have hl3 := ho3.len
        have hs3 := hb3.size
        have CR := Lib.hid (read_any HD3.out HSB.out 0)
        rw [read_on HON.out] at CR
        dsimp only at CR
        clear ho3 hb3
        go_wp2_with fail
        refine CR.out.mono ?_
        rintro e w4 ⟨A4, n4, c4, rfl, ho4, hb4⟩
        have HB4 := Lib.hid (HB3.out.trans (hb4.mono HB3.out.size))
        have HD4 := Lib.hid (HD3.out.below hb4)
        have HX4 := Lib.hid (HX3.out.below hb4)
        have HRQ4 := Lib.hid (HRQ3.out.below hb4)
        have HBE4 := Lib.hid (HBE3.out.below hb4)
        have HAL4 := Lib.hid ho4
        have hl4 := ho4.len
        have hs4 := hb4.size
        clear ho4 hb4
        obtain ⟨x0, x1, x2, x3, x4⟩ := HX4.out
        by_cases h2 : kd = 2
        · have hb2 : (kd == 2) = true := by simp [h2]
          clear h2
          go_wp2
          go_roundw
          case rel => exact ⟨i + 1, cr, d, by omega, by go_num, ⟨HD4.out⟩, ⟨HKM.out⟩, ⟨HB4.out⟩⟩
          case measure => simp [intOf]; omega
        · have hb2 : (kd == 2) = false := beq_eq_false_iff_ne.2 h2
          have HST := Lib.hid (HST.out h2)
          by_cases h0 : kd = 0
          · have hb0 : (kd == 0) = true := by simp [h0]
            by_cases hf : f = 0
            · have hbf : (f == 0) = true := by simp [hf]
              rw [if_pos ⟨h0, hf⟩] at HST
              clear h2 h0 hf
              have DD := Lib.hid (Below.refl w4.heap.size w4).drew
              have HB9 := Lib.hid HB4.out.drew
              have HD9 := Lib.hid (HD4.out.below DD.out)
              have HRQ9 := Lib.hid (HRQ4.out.below DD.out)
              have HBE9 := Lib.hid (HBE4.out.below DD.out)
              have HAL9 := Lib.hid (HAL4.out.below DD.out)
              obtain ⟨y0, y1, y2, y3, y4⟩ := HX4.out.below DD.out
              have HY9 := Lib.hid (HX4.out.below DD.out)
              have hs49 := DD.out.size
              have hsb9 := HB9.out.size
              have h49 : n4 ≤ 17592186044416 := by have := HTT.out; rw [List.length_append] at hl4; omega
              have h4m : n4 + m' ≤ 17592186044416 := by have := HTT.out; rw [List.length_append] at hl4; omega
              have hl4' := hl4
              go_wp2_with fail
              clear x0 x1 x2 x3 x4
              have HZ9 := Lib.hid (Below.refl w4.drew.heap.size w4.drew)
              go_region_held3 (fun W : World => W.cell? ⟨wr.heap.size, 4, none⟩ = some (.slice A' m' c')) (first | assumption | exact pw_cell_below (below_alloc (Below.refl _ _) _) (by assumption)) (first | ((refine stepApp (w0 := w4.drew) (base := w4.drew.heap.size) (by rfl) (.tmp 46) (.tmp 47) (by rfl) (by rfl) (by rfl) (OwB.lit0 _ _ (Nat.le_refl _)) (HAL9.out.rd.below (below_alloc (Below.refl _ _) _)) (HZ9.out.alloc (Nat.le_refl _) _) (by simp) (by omega) ?_; intro Aa na ca wa hoa hba; have hla := hoa.len; rw [List.nil_append] at hla; rw [List.nil_append] at hoa; rw [hl4'] at hla; subst hla; have HOa := Lib.hid hoa; have Ba := Lib.hid hba; have hsa := hba.size; have ya := pw_cell_below hba y4; clear hoa hba)) | ((refine stepApp (w0 := w4.drew) (base := w4.drew.heap.size) (by rfl) (.tmp 48) (.tmp 50) (by rfl) (by rfl) (by rfl) HOa.out (HRQ9.out.below Ba.out) Ba.out hsa (by omega) ?_; intro A5 n5 c5 w5 hob hbb; have HOb := Lib.hid hob; have Bb := Lib.hid hbb; have yb := pw_cell_below hbb y4; clear hob hbb)))
              have HB5 := Lib.hid (HB9.out.trans (Bb.out.mono hsb9))
              have HD5 := Lib.hid (HD9.out.below Bb.out)
              have HRQ5 := Lib.hid (HRQ9.out.below Bb.out)
              have HBE5 := Lib.hid (HBE9.out.below Bb.out)
              have HAL5 := Lib.hid (OwB.less HOb.out (Nat.le_trans hs3 (Nat.le_trans hs4 hs49)))
              have hl5 := HOb.out.len
              obtain ⟨x0, x1, x2, x3, x4⟩ := HY9.out.below Bb.out
              have CDO := Lib.hid (does_any HD5.out HFIT.out kd f nn k A' m' c' ys HRQ5.out HFS.out HQ2.out HQ3.out)
              generalize doR d kd f nn k ys = R at *
              obtain ⟨d1, out, r⟩ := R
              dsimp only at CDO HK1 HST
              unfold opV at CDO
              go_wp2_with fail
              refine CDO.out.mono ?_
              rintro e w6 ⟨A6, n6, c6, rfl, ho6, cs6, h6, s6⟩
              have HB6 := Lib.hid (HB5.out.trans (s6.bel.mono hs1))
              have HD6 := Lib.hid h6
              have HBE6 := Lib.hid (own_past HBE5.out (fun g hg => Nat.lt_of_lt_of_le (HFT.out g hg) hsA) s6)
              have HAL6 := Lib.hid (own_past HAL5.out (fun g hg => Nat.lt_of_lt_of_le (HFT.out g hg) hsA) s6)
              have HSB6 := Lib.hid (HK1.out.fit HSL.out (by omega)).b
              have CSN := Lib.hid (safe_any h6 HSB6.out 0)
              rw [show safeR d1 0 = d1.b 0 from rfl] at CSN
              clear ho6 h6 s6 x0 x1 x2 x3 x4
              obtain ⟨⟨t1, ht1⟩, hon, hoff⟩ := HST.out
              obtain ⟨t2, ht2⟩ := hon HON.out
              have HT1 := Lib.hid ht1
              have HT2 := Lib.hid ht2
              clear ht1 ht2 hon hoff
              go_wp2_with fail
              refine CSN.out.mono ?_
              rintro e w7 ⟨A7, n7, c7, rfl, ho7, hb7⟩
              have hl7 := ho7.len
              have hc7 := ho7.cap
              have HB7 := Lib.hid (HB6.out.trans (hb7.mono HB6.out.size))
              have HD7 := Lib.hid (HD6.out.below hb7)
              have HBE7 := Lib.hid (HBE6.out.below hb7)
              have HAL7 := Lib.hid (HAL6.out.below hb7)
              have HNO7 := Lib.hid ho7
              have hle : n3 ≤ n7 := by rw [HT1.out, List.length_append] at hl7; omega
              have hlei : (n3 : Int) ≤ (n7 : Int) := by omega
              have hlec : n3 ≤ c7 := by omega
              have hleci : (n3 : Int) ≤ (c7 : Int) := by omega
              have HNT : Hid (RdB w7 A7 n3 (d.b 0)) := Lib.hid (by have := ho7.rd.take n3 hle; rwa [HT1.out, List.take_left' hl3] at this)
              have CS1 := Lib.hid (same_any A7 n3 c7 _ A3 n3 c3 _ w7 HNT.out HBE7.out.rd)
              rw [eqL_self] at CS1
              clear ho7 hb7
              go_wp2_with fail
              refine CS1.out.mono ?_
              rintro e w8 ⟨rfl, hd8⟩
              have hb8 := hd8.below
              have HB8 := Lib.hid (HB7.out.trans (hb8.mono HB7.out.size))
              have HD8 := Lib.hid (HD7.out.below hb8)
              have hca := HAL5.out.cap
              have hl5b := hl5
              rw [HT2.out, List.length_append] at hl5b
              have h7a : n7 ≤ n5 := by omega
              have h7ai : (n7 : Int) ≤ (n5 : Int) := by omega
              have h7c : n7 ≤ c5 := by omega
              have h7ci : (n7 : Int) ≤ (c5 : Int) := by omega
              have HAT : Hid (RdB w8 A5 n7 (d1.b 0)) := Lib.hid (by have := (HAL7.out.below hb8).rd.take n7 h7a;  rwa [HT2.out, List.take_left' hl7] at this)
              have CS2 := Lib.hid (same_any A7 n7 c7 _ A5 n7 c5 _ w8 (HNO7.out.below hb8).rd HAT.out)
              rw [eqL_self] at CS2
              clear hd8 hb8 hl5b
              go_wp2_with fail
              refine CS2.out.mono ?_
              rintro e w9' ⟨rfl, hd9⟩
              have hb9 := hd9.below
              have HB10 := Lib.hid (HB8.out.trans (hb9.mono HB8.out.size))
              have HD10 := Lib.hid (HD8.out.below hb9)
              clear hd9 hb9
              go_wp2
              go_roundw
              case rel => exact ⟨i + 1, cs6, d1, by omega, by go_num, ⟨HD10.out⟩, ⟨HK1.out⟩, ⟨HB10.out⟩⟩
              case measure => simp [intOf]; omega
            · have hbf : (f == 0) = false := beq_eq_false_iff_ne.2 hf
              rw [if_neg (fun e => hf e.2)] at HST
              clear h2 h0 hf
              have HB5 := HB4
              have HD5 := HD4
              have HRQ5 := HRQ4
              have HBE5 := HBE4
              have HAL5 := Lib.hid (OwB.less HAL4.out hs3)
              have hl5 := hl4
              have CDO := Lib.hid (does_any HD5.out HFIT.out kd f nn k A' m' c' ys HRQ5.out HFS.out HQ2.out HQ3.out)
              generalize doR d kd f nn k ys = R at *
              obtain ⟨d1, out, r⟩ := R
              dsimp only at CDO HK1 HST
              unfold opV at CDO
              go_wp2_with fail
              refine CDO.out.mono ?_
              rintro e w6 ⟨A6, n6, c6, rfl, ho6, cs6, h6, s6⟩
              have HB6 := Lib.hid (HB5.out.trans (s6.bel.mono hs1))
              have HD6 := Lib.hid h6
              have HBE6 := Lib.hid (own_past HBE5.out (fun g hg => Nat.lt_of_lt_of_le (HFT.out g hg) hsA) s6)
              have HAL6 := Lib.hid (own_past HAL5.out (fun g hg => Nat.lt_of_lt_of_le (HFT.out g hg) hsA) s6)
              have HSB6 := Lib.hid (HK1.out.fit HSL.out (by omega)).b
              have CSN := Lib.hid (safe_any h6 HSB6.out 0)
              rw [show safeR d1 0 = d1.b 0 from rfl] at CSN
              clear ho6 h6 s6 x0 x1 x2 x3 x4
              obtain ⟨⟨t1, ht1⟩, hon, hoff⟩ := HST.out
              obtain ⟨t2, ht2⟩ := hon HON.out
              have HT1 := Lib.hid ht1
              have HT2 := Lib.hid ht2
              clear ht1 ht2 hon hoff
              go_wp2_with fail
              refine CSN.out.mono ?_
              rintro e w7 ⟨A7, n7, c7, rfl, ho7, hb7⟩
              have hl7 := ho7.len
              have hc7 := ho7.cap
              have HB7 := Lib.hid (HB6.out.trans (hb7.mono HB6.out.size))
              have HD7 := Lib.hid (HD6.out.below hb7)
              have HBE7 := Lib.hid (HBE6.out.below hb7)
              have HAL7 := Lib.hid (HAL6.out.below hb7)
              have HNO7 := Lib.hid ho7
              have hle : n3 ≤ n7 := by rw [HT1.out, List.length_append] at hl7; omega
              have hlei : (n3 : Int) ≤ (n7 : Int) := by omega
              have hlec : n3 ≤ c7 := by omega
              have hleci : (n3 : Int) ≤ (c7 : Int) := by omega
              have HNT : Hid (RdB w7 A7 n3 (d.b 0)) := Lib.hid (by have := ho7.rd.take n3 hle; rwa [HT1.out, List.take_left' hl3] at this)
              have CS1 := Lib.hid (same_any A7 n3 c7 _ A3 n3 c3 _ w7 HNT.out HBE7.out.rd)
              rw [eqL_self] at CS1
              clear ho7 hb7
              go_wp2_with fail
              refine CS1.out.mono ?_
              rintro e w8 ⟨rfl, hd8⟩
              have hb8 := hd8.below
              have HB8 := Lib.hid (HB7.out.trans (hb8.mono HB7.out.size))
              have HD8 := Lib.hid (HD7.out.below hb8)
              have hca := HAL5.out.cap
              have hl5b := hl5
              rw [← List.append_nil (d.b 0 ++ d.b 1)] at hl5b
              rw [HT2.out, List.length_append] at hl5b
              have h7a : n7 ≤ n4 := by omega
              have h7ai : (n7 : Int) ≤ (n4 : Int) := by omega
              have h7c : n7 ≤ c4 := by omega
              have h7ci : (n7 : Int) ≤ (c4 : Int) := by omega
              have HAT : Hid (RdB w8 A4 n7 (d1.b 0)) := Lib.hid (by have := (HAL7.out.below hb8).rd.take n7 h7a; rw [← List.append_nil (d.b 0 ++ d.b 1)] at this; rwa [HT2.out, List.take_left' hl7] at this)
              have CS2 := Lib.hid (same_any A7 n7 c7 _ A4 n7 c4 _ w8 (HNO7.out.below hb8).rd HAT.out)
              rw [eqL_self] at CS2
              clear hd8 hb8 hl5b
              go_wp2_with fail
              refine CS2.out.mono ?_
              rintro e w9' ⟨rfl, hd9⟩
              have hb9 := hd9.below
              have HB10 := Lib.hid (HB8.out.trans (hb9.mono HB8.out.size))
              have HD10 := Lib.hid (HD8.out.below hb9)
              clear hd9 hb9
              go_wp2
              go_roundw
              case rel => exact ⟨i + 1, cs6, d1, by omega, by go_num, ⟨HD10.out⟩, ⟨HK1.out⟩, ⟨HB10.out⟩⟩
              case measure => simp [intOf]; omega
          · have hb0 : (kd == 0) = false := beq_eq_false_iff_ne.2 h0
            rw [if_neg (fun e => h0 e.1)] at HST
            clear h2 h0
            have HB5 := HB4
            have HD5 := HD4
            have HRQ5 := HRQ4
            have HBE5 := HBE4
            have HAL5 := Lib.hid (OwB.less HAL4.out hs3)
            have hl5 := hl4
            have CDO := Lib.hid (does_any HD5.out HFIT.out kd f nn k A' m' c' ys HRQ5.out HFS.out HQ2.out HQ3.out)
            generalize doR d kd f nn k ys = R at *
            obtain ⟨d1, out, r⟩ := R
            dsimp only at CDO HK1 HST
            unfold opV at CDO
            go_wp2_with fail
            refine CDO.out.mono ?_
            rintro e w6 ⟨A6, n6, c6, rfl, ho6, cs6, h6, s6⟩
            have HB6 := Lib.hid (HB5.out.trans (s6.bel.mono hs1))
            have HD6 := Lib.hid h6
            have HBE6 := Lib.hid (own_past HBE5.out (fun g hg => Nat.lt_of_lt_of_le (HFT.out g hg) hsA) s6)
            have HAL6 := Lib.hid (own_past HAL5.out (fun g hg => Nat.lt_of_lt_of_le (HFT.out g hg) hsA) s6)
            have HSB6 := Lib.hid (HK1.out.fit HSL.out (by omega)).b
            have CSN := Lib.hid (safe_any h6 HSB6.out 0)
            rw [show safeR d1 0 = d1.b 0 from rfl] at CSN
            clear ho6 h6 s6 x0 x1 x2 x3 x4
            obtain ⟨⟨t1, ht1⟩, hon, hoff⟩ := HST.out
            obtain ⟨t2, ht2⟩ := hon HON.out
            have HT1 := Lib.hid ht1
            have HT2 := Lib.hid ht2
            clear ht1 ht2 hon hoff
            go_wp2_with fail
            refine CSN.out.mono ?_
            rintro e w7 ⟨A7, n7, c7, rfl, ho7, hb7⟩
            have hl7 := ho7.len
            have hc7 := ho7.cap
            have HB7 := Lib.hid (HB6.out.trans (hb7.mono HB6.out.size))
            have HD7 := Lib.hid (HD6.out.below hb7)
            have HBE7 := Lib.hid (HBE6.out.below hb7)
            have HAL7 := Lib.hid (HAL6.out.below hb7)
            have HNO7 := Lib.hid ho7
            have hle : n3 ≤ n7 := by rw [HT1.out, List.length_append] at hl7; omega
            have hlei : (n3 : Int) ≤ (n7 : Int) := by omega
            have hlec : n3 ≤ c7 := by omega
            have hleci : (n3 : Int) ≤ (c7 : Int) := by omega
            have HNT : Hid (RdB w7 A7 n3 (d.b 0)) := Lib.hid (by have := ho7.rd.take n3 hle; rwa [HT1.out, List.take_left' hl3] at this)
            have CS1 := Lib.hid (same_any A7 n3 c7 _ A3 n3 c3 _ w7 HNT.out HBE7.out.rd)
            rw [eqL_self] at CS1
            clear ho7 hb7
            go_wp2_with fail
            refine CS1.out.mono ?_
            rintro e w8 ⟨rfl, hd8⟩
            have hb8 := hd8.below
            have HB8 := Lib.hid (HB7.out.trans (hb8.mono HB7.out.size))
            have HD8 := Lib.hid (HD7.out.below hb8)
            have hca := HAL5.out.cap
            have hl5b := hl5
            rw [← List.append_nil (d.b 0 ++ d.b 1)] at hl5b
            rw [HT2.out, List.length_append] at hl5b
            have h7a : n7 ≤ n4 := by omega
            have h7ai : (n7 : Int) ≤ (n4 : Int) := by omega
            have h7c : n7 ≤ c4 := by omega
            have h7ci : (n7 : Int) ≤ (c4 : Int) := by omega
            have HAT : Hid (RdB w8 A4 n7 (d1.b 0)) := Lib.hid (by have := (HAL7.out.below hb8).rd.take n7 h7a; rw [← List.append_nil (d.b 0 ++ d.b 1)] at this; rwa [HT2.out, List.take_left' hl7] at this)
            have CS2 := Lib.hid (same_any A7 n7 c7 _ A4 n7 c4 _ w8 (HNO7.out.below hb8).rd HAT.out)
            rw [eqL_self] at CS2
            clear hd8 hb8 hl5b
            go_wp2_with fail
            refine CS2.out.mono ?_
            rintro e w9' ⟨rfl, hd9⟩
            have hb9 := hd9.below
            have HB10 := Lib.hid (HB8.out.trans (hb9.mono HB8.out.size))
            have HD10 := Lib.hid (HD8.out.below hb9)
            clear hd9 hb9
            go_wp2
            go_roundw
            case rel => exact ⟨i + 1, cs6, d1, by omega, by go_num, ⟨HD10.out⟩, ⟨HK1.out⟩, ⟨HB10.out⟩⟩
            case measure => simp [intOf]; omega
      · have HON := Lib.hid ho
        clear ho
        go_wp2_with fail
        refine CSB.out.mono ?_
        rintro e w3 ⟨A3, n3, c3, rfl, ho3, hb3⟩
        have HB3 := Lib.hid (HBA.out.trans (hb3.mono HBA.out.size))
        have HD3 := Lib.hid (HDA.out.below hb3)
        have HX3 := Lib.hid (HBX.out.below hb3)
        have HRQ3 := Lib.hid (HRQ.out.below hb3)
        have HBE3 := Lib.hid ho3
        have hl3 := ho3.len
        have hs3 := hb3.size
        have CR := Lib.hid (read_any HD3.out HSB.out 0)
        rw [read_off HON.out] at CR
        dsimp only at CR
        clear ho3 hb3
        go_wp2_with fail
        refine CR.out.mono ?_
        rintro e w4 ⟨A4, n4, c4, rfl, ho4, hb4⟩
        have HB4 := Lib.hid (HB3.out.trans (hb4.mono HB3.out.size))
        have HD4 := Lib.hid (HD3.out.below hb4)
        have HX4 := Lib.hid (HX3.out.below hb4)
        have HRQ4 := Lib.hid (HRQ3.out.below hb4)
        have HBE4 := Lib.hid (HBE3.out.below hb4)
        have HAL4 := Lib.hid ho4
        have hl4 := ho4.len
        have hs4 := hb4.size
        clear ho4 hb4
        obtain ⟨x0, x1, x2, x3, x4⟩ := HX4.out
        by_cases h2 : kd = 2
        · have hb2 : (kd == 2) = true := by simp [h2]
          clear h2
          go_wp2
          go_roundw
          case rel => exact ⟨i + 1, cr, d, by omega, by go_num, ⟨HD4.out⟩, ⟨HKM.out⟩, ⟨HB4.out⟩⟩
          case measure => simp [intOf]; omega
        · have hb2 : (kd == 2) = false := beq_eq_false_iff_ne.2 h2
          have HST := Lib.hid (HST.out h2)
          generalize (if kd = 0 ∧ f = 0 then ys else []) = zs at HST
          clear h2
          by_cases h0 : kd = 0
          · have hb0 : (kd == 0) = true := by simp [h0]
            clear h0
            by_cases hf : f = 0
            · have hbf : (f == 0) = true := by simp [hf]
              clear hf
              have HB5 := HB4
              have HD5 := HD4
              have HRQ5 := HRQ4
              have HBE5 := HBE4
              have HAL5 := Lib.hid (OwB.less HAL4.out hs3)
              have hl5 := hl4
              have CDO := Lib.hid (does_any HD5.out HFIT.out kd f nn k A' m' c' ys HRQ5.out HFS.out HQ2.out HQ3.out)
              generalize doR d kd f nn k ys = R at *
              obtain ⟨d1, out, r⟩ := R
              dsimp only at CDO HK1 HST
              unfold opV at CDO
              go_wp2_with fail
              refine CDO.out.mono ?_
              rintro e w6 ⟨A6, n6, c6, rfl, ho6, cs6, h6, s6⟩
              have HB6 := Lib.hid (HB5.out.trans (s6.bel.mono hs1))
              have HD6 := Lib.hid h6
              have HBE6 := Lib.hid (own_past HBE5.out (fun g hg => Nat.lt_of_lt_of_le (HFT.out g hg) hsA) s6)
              have HAL6 := Lib.hid (own_past HAL5.out (fun g hg => Nat.lt_of_lt_of_le (HFT.out g hg) hsA) s6)
              have HSB6 := Lib.hid (HK1.out.fit HSL.out (by omega)).b
              have CSN := Lib.hid (safe_any h6 HSB6.out 0)
              rw [show safeR d1 0 = d1.b 0 from rfl] at CSN
              clear ho6 h6 s6 x0 x1 x2 x3 x4
              obtain ⟨⟨t1, ht1⟩, hon, hoff⟩ := HST.out
              have hsame := hoff HON.out
              have HT1 := Lib.hid ht1
              have HSA := Lib.hid hsame
              clear ht1 hon hoff hsame
              go_wp2_with fail
              refine CSN.out.mono ?_
              rintro e w7 ⟨A7, n7, c7, rfl, ho7, hb7⟩
              have hl7 := ho7.len
              have hc7 := ho7.cap
              have HB7 := Lib.hid (HB6.out.trans (hb7.mono HB6.out.size))
              have HD7 := Lib.hid (HD6.out.below hb7)
              have HBE7 := Lib.hid (HBE6.out.below hb7)
              have HAL7 := Lib.hid (HAL6.out.below hb7)
              have HNO7 := Lib.hid ho7
              have hle : n3 ≤ n7 := by rw [HT1.out, List.length_append] at hl7; omega
              have hlei : (n3 : Int) ≤ (n7 : Int) := by omega
              have hlec : n3 ≤ c7 := by omega
              have hleci : (n3 : Int) ≤ (c7 : Int) := by omega
              have HNT : Hid (RdB w7 A7 n3 (d.b 0)) := Lib.hid (by have := ho7.rd.take n3 hle; rwa [HT1.out, List.take_left' hl3] at this)
              have CS1 := Lib.hid (same_any A7 n3 c7 _ A3 n3 c3 _ w7 HNT.out HBE7.out.rd)
              rw [eqL_self] at CS1
              clear ho7 hb7
              go_wp2_with fail
              refine CS1.out.mono ?_
              rintro e w8 ⟨rfl, hd8⟩
              have hb8 := hd8.below
              have HB8 := Lib.hid (HB7.out.trans (hb8.mono HB7.out.size))
              have HD8 := Lib.hid (HD7.out.below hb8)
              have HN8 := Lib.hid (HNO7.out.below hb8).rd
              rw [HSA.out] at HN8
              have CS2 := Lib.hid (same_any A7 n7 c7 _ A3 n3 c3 _ w8 HN8.out (HBE7.out.below hb8).rd)
              rw [eqL_self] at CS2
              clear hd8 hb8
              go_wp2_with fail
              refine CS2.out.mono ?_
              rintro e w9' ⟨rfl, hd9⟩
              have hb9 := hd9.below
              have HB10 := Lib.hid (HB8.out.trans (hb9.mono HB8.out.size))
              have HD10 := Lib.hid (HD8.out.below hb9)
              clear hd9 hb9
              go_wp2
              go_roundw
              case rel => exact ⟨i + 1, cs6, d1, by omega, by go_num, ⟨HD10.out⟩, ⟨HK1.out⟩, ⟨HB10.out⟩⟩
              case measure => simp [intOf]; omega
            · have hbf : (f == 0) = false := beq_eq_false_iff_ne.2 hf
              clear hf
              have HB5 := HB4
              have HD5 := HD4
              have HRQ5 := HRQ4
              have HBE5 := HBE4
              have HAL5 := Lib.hid (OwB.less HAL4.out hs3)
              have hl5 := hl4
              have CDO := Lib.hid (does_any HD5.out HFIT.out kd f nn k A' m' c' ys HRQ5.out HFS.out HQ2.out HQ3.out)
              generalize doR d kd f nn k ys = R at *
              obtain ⟨d1, out, r⟩ := R
              dsimp only at CDO HK1 HST
              unfold opV at CDO
              go_wp2_with fail
              refine CDO.out.mono ?_
              rintro e w6 ⟨A6, n6, c6, rfl, ho6, cs6, h6, s6⟩
              have HB6 := Lib.hid (HB5.out.trans (s6.bel.mono hs1))
              have HD6 := Lib.hid h6
              have HBE6 := Lib.hid (own_past HBE5.out (fun g hg => Nat.lt_of_lt_of_le (HFT.out g hg) hsA) s6)
              have HAL6 := Lib.hid (own_past HAL5.out (fun g hg => Nat.lt_of_lt_of_le (HFT.out g hg) hsA) s6)
              have HSB6 := Lib.hid (HK1.out.fit HSL.out (by omega)).b
              have CSN := Lib.hid (safe_any h6 HSB6.out 0)
              rw [show safeR d1 0 = d1.b 0 from rfl] at CSN
              clear ho6 h6 s6 x0 x1 x2 x3 x4
              obtain ⟨⟨t1, ht1⟩, hon, hoff⟩ := HST.out
              have hsame := hoff HON.out
              have HT1 := Lib.hid ht1
              have HSA := Lib.hid hsame
              clear ht1 hon hoff hsame
              go_wp2_with fail
              refine CSN.out.mono ?_
              rintro e w7 ⟨A7, n7, c7, rfl, ho7, hb7⟩
              have hl7 := ho7.len
              have hc7 := ho7.cap
              have HB7 := Lib.hid (HB6.out.trans (hb7.mono HB6.out.size))
              have HD7 := Lib.hid (HD6.out.below hb7)
              have HBE7 := Lib.hid (HBE6.out.below hb7)
              have HAL7 := Lib.hid (HAL6.out.below hb7)
              have HNO7 := Lib.hid ho7
              have hle : n3 ≤ n7 := by rw [HT1.out, List.length_append] at hl7; omega
              have hlei : (n3 : Int) ≤ (n7 : Int) := by omega
              have hlec : n3 ≤ c7 := by omega
              have hleci : (n3 : Int) ≤ (c7 : Int) := by omega
              have HNT : Hid (RdB w7 A7 n3 (d.b 0)) := Lib.hid (by have := ho7.rd.take n3 hle; rwa [HT1.out, List.take_left' hl3] at this)
              have CS1 := Lib.hid (same_any A7 n3 c7 _ A3 n3 c3 _ w7 HNT.out HBE7.out.rd)
              rw [eqL_self] at CS1
              clear ho7 hb7
              go_wp2_with fail
              refine CS1.out.mono ?_
              rintro e w8 ⟨rfl, hd8⟩
              have hb8 := hd8.below
              have HB8 := Lib.hid (HB7.out.trans (hb8.mono HB7.out.size))
              have HD8 := Lib.hid (HD7.out.below hb8)
              have HN8 := Lib.hid (HNO7.out.below hb8).rd
              rw [HSA.out] at HN8
              have CS2 := Lib.hid (same_any A7 n7 c7 _ A3 n3 c3 _ w8 HN8.out (HBE7.out.below hb8).rd)
              rw [eqL_self] at CS2
              clear hd8 hb8
              go_wp2_with fail
              refine CS2.out.mono ?_
              rintro e w9' ⟨rfl, hd9⟩
              have hb9 := hd9.below
              have HB10 := Lib.hid (HB8.out.trans (hb9.mono HB8.out.size))
              have HD10 := Lib.hid (HD8.out.below hb9)
              clear hd9 hb9
              go_wp2
              go_roundw
              case rel => exact ⟨i + 1, cs6, d1, by omega, by go_num, ⟨HD10.out⟩, ⟨HK1.out⟩, ⟨HB10.out⟩⟩
              case measure => simp [intOf]; omega
          · have hb0 : (kd == 0) = false := beq_eq_false_iff_ne.2 h0
            clear h0
            have HB5 := HB4
            have HD5 := HD4
            have HRQ5 := HRQ4
            have HBE5 := HBE4
            have HAL5 := Lib.hid (OwB.less HAL4.out hs3)
            have hl5 := hl4
            have CDO := Lib.hid (does_any HD5.out HFIT.out kd f nn k A' m' c' ys HRQ5.out HFS.out HQ2.out HQ3.out)
            generalize doR d kd f nn k ys = R at *
            obtain ⟨d1, out, r⟩ := R
            dsimp only at CDO HK1 HST
            unfold opV at CDO
            go_wp2_with fail
            refine CDO.out.mono ?_
            rintro e w6 ⟨A6, n6, c6, rfl, ho6, cs6, h6, s6⟩
            have HB6 := Lib.hid (HB5.out.trans (s6.bel.mono hs1))
            have HD6 := Lib.hid h6
            have HBE6 := Lib.hid (own_past HBE5.out (fun g hg => Nat.lt_of_lt_of_le (HFT.out g hg) hsA) s6)
            have HAL6 := Lib.hid (own_past HAL5.out (fun g hg => Nat.lt_of_lt_of_le (HFT.out g hg) hsA) s6)
            have HSB6 := Lib.hid (HK1.out.fit HSL.out (by omega)).b
            have CSN := Lib.hid (safe_any h6 HSB6.out 0)
            rw [show safeR d1 0 = d1.b 0 from rfl] at CSN
            clear ho6 h6 s6 x0 x1 x2 x3 x4
            obtain ⟨⟨t1, ht1⟩, hon, hoff⟩ := HST.out
            have hsame := hoff HON.out
            have HT1 := Lib.hid ht1
            have HSA := Lib.hid hsame
            clear ht1 hon hoff hsame
            go_wp2_with fail
            refine CSN.out.mono ?_
            rintro e w7 ⟨A7, n7, c7, rfl, ho7, hb7⟩
            have hl7 := ho7.len
            have hc7 := ho7.cap
            have HB7 := Lib.hid (HB6.out.trans (hb7.mono HB6.out.size))
            have HD7 := Lib.hid (HD6.out.below hb7)
            have HBE7 := Lib.hid (HBE6.out.below hb7)
            have HAL7 := Lib.hid (HAL6.out.below hb7)
            have HNO7 := Lib.hid ho7
            have hle : n3 ≤ n7 := by rw [HT1.out, List.length_append] at hl7; omega
            have hlei : (n3 : Int) ≤ (n7 : Int) := by omega
            have hlec : n3 ≤ c7 := by omega
            have hleci : (n3 : Int) ≤ (c7 : Int) := by omega
            have HNT : Hid (RdB w7 A7 n3 (d.b 0)) := Lib.hid (by have := ho7.rd.take n3 hle; rwa [HT1.out, List.take_left' hl3] at this)
            have CS1 := Lib.hid (same_any A7 n3 c7 _ A3 n3 c3 _ w7 HNT.out HBE7.out.rd)
            rw [eqL_self] at CS1
            clear ho7 hb7
            go_wp2_with fail
            refine CS1.out.mono ?_
            rintro e w8 ⟨rfl, hd8⟩
            have hb8 := hd8.below
            have HB8 := Lib.hid (HB7.out.trans (hb8.mono HB7.out.size))
            have HD8 := Lib.hid (HD7.out.below hb8)
            have HN8 := Lib.hid (HNO7.out.below hb8).rd
            rw [HSA.out] at HN8
            have CS2 := Lib.hid (same_any A7 n7 c7 _ A3 n3 c3 _ w8 HN8.out (HBE7.out.below hb8).rd)
            rw [eqL_self] at CS2
            clear hd8 hb8
            go_wp2_with fail
            refine CS2.out.mono ?_
            rintro e w9' ⟨rfl, hd9⟩
            have hb9 := hd9.below
            have HB10 := Lib.hid (HB8.out.trans (hb9.mono HB8.out.size))
            have HD10 := Lib.hid (HD8.out.below hb9)
            clear hd9 hb9
            go_wp2
            go_roundw
            case rel => exact ⟨i + 1, cs6, d1, by omega, by go_num, ⟨HD10.out⟩, ⟨HK1.out⟩, ⟨HB10.out⟩⟩
            case measure => simp [intOf]; omega
    · go_wp2
      go_ret
      exact ⟨rfl, HB.out⟩
end Go.Proofs.Ytbmdglbhmianjaa.diskl4
