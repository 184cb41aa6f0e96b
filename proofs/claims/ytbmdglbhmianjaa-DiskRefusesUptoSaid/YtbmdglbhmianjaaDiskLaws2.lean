/- The walk of the law DiskRefuses. -/
import Derived.Test.YtbmdglbhmianjaaScript
set_option linter.unusedVariables false
set_option linter.unusedSimpArgs false
namespace Go.Proofs.Ytbmdglbhmianjaa.diskl2
open Go.RowKit Go.Proofs.YtbmdglbhmianjaaW.PrintWords Go.Proofs.Ytbmdglbhmianjaa.base Go.Proofs.Ytbmdglbhmianjaa.mem Go.Proofs.Ytbmdglbhmianjaa.keep Go.Proofs.Ytbmdglbhmianjaa.samew Go.Proofs.Ytbmdglbhmianjaa.diskp Go.Proofs.Ytbmdglbhmianjaa.diskr Go.Proofs.Ytbmdglbhmianjaa.diskw Go.Proofs.Ytbmdglbhmianjaa.clone Go.Proofs.Ytbmdglbhmianjaa.ops Go.Proofs.Ytbmdglbhmianjaa.diskn

set_option maxHeartbeats 4000000 in
set_option maxRecDepth 100000 in
theorem refusesLaw (A : Option Addr) (n c : Nat) (os : List O) (w : World) (hr : RdO w A n os) (hc : n ≤ c) (hz : sumB os + n + 1 ≤ 1048576) :
    Calls Try.prog 7 #[.slice A n c] w fun e w' => e = .returned (.bool true) ∧ Below w.heap.size w w' := by
  have HR := Lib.hid hr
  have hln := hr.len
  clear hr
  go_enter Try.func7, Try.ntmps7
  go_wp2_with fail
  refine (wakes_any w).mono ?_
  rintro e w1 ⟨rfl, hb1⟩
  have HB1 := Lib.hid hb1
  clear hb1
  go_wp2_with fail
  refine (new_any w1).mono ?_
  rintro e w2 ⟨p, cs, rfl, hd2, hb2⟩
  have HB2 := Lib.hid (HB1.out.trans (hb2.mono HB1.out.size))
  have hs1 := HB1.out.size
  have HD2 := Lib.hid hd2
  clear hb2 hd2
  go_wp2
  go_loopw [28] (fun li wr => ∃ (i : Nat) (cr : Nat → Sl) (d : D), i ≤ n ∧ li = .int .i64 i ∧ Aside0 (DAt wr w1.heap.size p cr d) ∧ Aside0 (Ok d (sumB (os.take i)) i) ∧ Aside0 (Below w.heap.size w wr)) (fun li _ => n - (intOf li).toNat)
  case atStart => exact ⟨0, cs, _, by omega, rfl, ⟨HD2.out⟩, ⟨Ok.load [] []⟩, ⟨HB2.out⟩⟩
  case round =>
    obtain ⟨i, cr, d, hi, rfl, HD, HO, HB⟩ := hrel
    have hs := HB.out.size
    by_cases hlt : i < n
    · have hlg : i < os.length := by rw [hln]; exact hlt
      obtain ⟨b0, off, e0, hall⟩ := HR.out.at_ (by omega)
      have hat := (hall i hlt).below HB.out
      clear hall
      subst e0
      have hmem := getD_memO os i hlg
      have hq := HR.out.ok _ hmem
      have hrd := (HR.out.rd _ hmem).below HB.out
      have hsm : sumB (os.take (i + 1)) = sumB (os.take i) + (os.getD i nilO).ys.length := by rw [take_snocO os i hlg, sumB_snoc]
      have hsl := sumB_take os (i + 1)
      obtain ⟨q, hqe⟩ : ∃ q, os.getD i nilO = q := ⟨_, rfl⟩
      rw [hqe] at hat hq hrd hsm
      clear hqe hmem hlg
      obtain ⟨kd, f, nn, k, A', m', c', ys⟩ := q
      obtain ⟨e0, e1, e2, e3, e4⟩ := hat
      obtain ⟨q0, q1, q2, q3, q4⟩ := hq
      dsimp only at e0 e1 e2 e3 e4 q0 q1 q2 q3 q4 hrd hsm
      have hml := hrd.len
      have BA := Lib.hid (below_alloc (Below.refl wr.heap.size wr) (.cells #[.int .i64 kd, .int .i64 f, .int .i64 nn, .int .i64 k, .slice A' m' c'] 40))
      have HBX := Lib.hid (BoxO.new wr kd f nn k A' m' c')
      have HBA := Lib.hid (HB.out.trans (BA.out.mono HB.out.size))
      have HDA := Lib.hid (HD.out.below BA.out)
      have HRQ := Lib.hid (hrd.below BA.out)
      have hfit := HO.out.fit (by omega) (by omega)
      have hsb := hfit.b
      have HFIT := Lib.hid hfit
      have HFS := Lib.hid (HO.out.fits (m := m') (by omega))
      have hO1 := HO.out.do_ kd f (n := nn) (k := k) ys q2.2 q3
      rw [← hsm] at hO1
      have HO1 := Lib.hid hO1
      have HREF := Lib.hid (refused d kd f nn k ys)
      have CW := Lib.hid (writes_any HDA.out)
      have CD := Lib.hid (down_any HDA.out)
      have CR0 := Lib.hid (read_any HDA.out hsb 0)
      have HQ2 := Lib.hid q2
      have HQ3 := Lib.hid q3
      clear hrd hfit hO1 q0 q1 q2 q3 q4 hsm hsl
      have HSB := Lib.hid hsb
      clear hsb
      go_wp2_with fail
      refine CW.out.mono ?_
      rintro e w' ⟨rfl, rfl⟩
      go_wp2_with fail
      refine CD.out.mono ?_
      rintro e w' ⟨rfl, rfl⟩
      go_wp2_with fail
      refine CR0.out.mono ?_
      rintro e w3 ⟨A3, n3, c3, rfl, ho3, hb3⟩
      have HB3 := Lib.hid (HBA.out.trans (hb3.mono HBA.out.size))
      have HD3 := Lib.hid (HDA.out.below hb3)
      have HBX3 := Lib.hid (HBX.out.below hb3)
      have HRQ3 := Lib.hid (HRQ.out.below hb3)
      have HOW3 := Lib.hid ho3
      have H3S := Lib.hid hb3.size
      have CR1 := Lib.hid (read_any HD3.out HSB.out 1)
      clear ho3 hb3
      go_wp2_with fail
      refine CR1.out.mono ?_
      rintro e w4 ⟨A4, n4, c4, rfl, ho4, hb4⟩
      have HB4 := Lib.hid (HB3.out.trans (hb4.mono HB3.out.size))
      have HD4 := Lib.hid (HD3.out.below hb4)
      obtain ⟨x0, x1, x2, x3, x4⟩ := HBX3.out.below hb4
      have HRQ4 := Lib.hid (HRQ3.out.below hb4)
      have HOW34 := Lib.hid (HOW3.out.below hb4)
      have HOW4 := Lib.hid ho4
      have CDO := Lib.hid (does_any HD4.out HFIT.out kd f nn k A' m' c' ys HRQ4.out HFS.out HQ2.out HQ3.out)
      clear ho4 hb4
      generalize doR d kd f nn k ys = R at CDO HREF HO1
      obtain ⟨d1, out, r⟩ := R
      dsimp only at CDO HREF HO1
      unfold opV at CDO
      go_wp2_with fail
      refine CDO.out.mono ?_
      rintro e w5 ⟨A5, n5, c5, rfl, ho5, cs5, h5, s5⟩
      have HB5 := Lib.hid (HB4.out.trans (s5.bel.mono hs1))
      have hft : ∀ g, Ft p cr g → g < wr.heap.size := fun g hg => (HD.out.ft hg).2
      have hsA := BA.out.size
      have HOW35 := Lib.hid (own_past HOW34.out (fun g hg => Nat.lt_of_lt_of_le (hft g hg) hsA) s5).rd
      have hsz3 : wr.heap.size ≤ w3.heap.size := Nat.le_trans hsA H3S.out
      have HOW45 := Lib.hid (own_past HOW4.out (fun g hg => Nat.lt_of_lt_of_le (hft g hg) hsz3) s5).rd
      have H5 := Lib.hid h5
      have CW5 := Lib.hid (writes_any h5)
      clear ho5 h5 s5 hft
      by_cases hr0 : r = 0
      · subst hr0
        go_wp2
        go_roundw
        case rel => exact ⟨i + 1, cs5, d1, by omega, by go_num, ⟨H5.out⟩, ⟨HO1.out⟩, ⟨HB5.out⟩⟩
        case measure => simp [intOf]; omega
      · have hrb : (r == 0) = false := beq_eq_false_iff_ne.2 hr0
        by_cases hn : d1.n = d.n
        · obtain rfl := HREF.out hr0 hn
          have hnb : (d1.n != d1.n) = false := by simp
          have HSB5 := HSB
          have CR5 := Lib.hid (read_any H5.out HSB.out 0)
          clear hn hr0
          go_wp2_with fail
          refine CW5.out.mono ?_
          rintro e w' ⟨rfl, rfl⟩
          go_wp2_with fail
          refine CR5.out.mono ?_
          rintro e w6 ⟨A6, n6, c6, rfl, ho6, hb6⟩
          have HB6 := Lib.hid (HB5.out.trans (hb6.mono HB5.out.size))
          have HD6 := Lib.hid (H5.out.below hb6)
          have HX6 := Lib.hid ((HOW35.out).below hb6)
          have HY6 := Lib.hid ((HOW45.out).below hb6)
          have HZ6 := Lib.hid ho6.rd
          have CR6 := Lib.hid (read_any HD6.out HSB.out 1)
          clear ho6 hb6
          go_wp2_with fail
          refine CR6.out.mono ?_
          rintro e w7 ⟨A7, n7, c7, rfl, ho7, hb7⟩
          have HB7 := Lib.hid (HB6.out.trans (hb7.mono HB6.out.size))
          have HD7 := Lib.hid (HD6.out.below hb7)
          have HY7 := Lib.hid (HY6.out.below hb7)
          have HU7 := Lib.hid ho7.rd
          have CD7 := Lib.hid (down_any HD7.out)
          have CS7 := Lib.hid (same_any A3 n3 c3 _ A6 n6 c6 _ w7 (HX6.out.below hb7) (HZ6.out.below hb7))
          rw [eqL_self] at CS7
          clear ho7 hb7
          go_wp2_with fail
          refine CD7.out.mono ?_
          rintro e w' ⟨rfl, rfl⟩
          have hdb : (d1.off != d1.off) = false := by simp
          go_wp2_with fail
          refine CS7.out.mono ?_
          rintro e w8 ⟨rfl, hd8⟩
          have hb8 := hd8.below
          have HB8 := Lib.hid (HB7.out.trans (hb8.mono HB7.out.size))
          have HD8 := Lib.hid (HD7.out.below hb8)
          have CS8 := Lib.hid (same_any A4 n4 c4 _ A7 n7 c7 _ w8 (HY7.out.below hb8) (HU7.out.below hb8))
          rw [eqL_self] at CS8
          clear hd8 hb8
          go_wp2_with fail
          refine CS8.out.mono ?_
          rintro e w9 ⟨rfl, hd9⟩
          have hb9 := hd9.below
          have HB9 := Lib.hid (HB8.out.trans (hb9.mono HB8.out.size))
          have HD9 := Lib.hid (HD8.out.below hb9)
          clear hd9 hb9
          go_wp2
          go_roundw
          case rel => exact ⟨i + 1, cs5, d1, by omega, by go_num, ⟨HD9.out⟩, ⟨HO1.out⟩, ⟨HB9.out⟩⟩
          case measure => simp [intOf]; omega
        · have hnb : (d1.n != d.n) = true := by simp [hn]
          clear hn hr0
          go_wp2_with fail
          refine CW5.out.mono ?_
          rintro e w' ⟨rfl, rfl⟩
          go_wp2
          go_roundw
          case rel => exact ⟨i + 1, cs5, d1, by omega, by go_num, ⟨H5.out⟩, ⟨HO1.out⟩, ⟨HB5.out⟩⟩
          case measure => simp [intOf]; omega
    · go_wp2_with fail
      refine (arm_nil _ 1 1).mono ?_
      rintro e w' ⟨rfl, rfl⟩
      go_wp2_with fail
      refine (off_nil _ 1).mono ?_
      rintro e w' ⟨rfl, rfl⟩
      go_wp2_with fail
      refine (on_nil _).mono ?_
      rintro e w' ⟨rfl, rfl⟩
      go_wp2_with fail
      refine (read_nil _ 0).mono ?_
      rintro e w' ⟨rfl, rfl⟩
      go_wp2_with fail
      refine (append_nil _ 0 none 0 0).mono ?_
      rintro e w' ⟨rfl, rfl⟩
      go_wp2_with fail
      refine (sync_nil _ 0).mono ?_
      rintro e w' ⟨rfl, rfl⟩
      go_wp2_with fail
      refine (trunc_nil _ 0 0).mono ?_
      rintro e w' ⟨rfl, rfl⟩
      go_wp2_with fail
      refine (down_nil _).mono ?_
      rintro e w' ⟨rfl, rfl⟩
      go_wp2_with fail
      refine (writes_nil _).mono ?_
      rintro e w' ⟨rfl, rfl⟩
      go_wp2_with fail
      refine (safe_nil _ 0).mono ?_
      rintro e w' ⟨rfl, rfl⟩
      go_wp2
      go_ret
      exact ⟨rfl, HB.out⟩
end Go.Proofs.Ytbmdglbhmianjaa.diskl2
