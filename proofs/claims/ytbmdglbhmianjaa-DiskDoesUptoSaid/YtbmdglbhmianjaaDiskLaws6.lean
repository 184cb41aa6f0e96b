/- The walk of the law DiskDoes. -/
import Derived.Test.YtbmdglbhmianjaaRefSays
import Derived.Test.YtbmdglbhmianjaaScript
import Derived.Test.YtbmdglbhmianjaaSame
set_option linter.unusedVariables false
set_option linter.unusedSimpArgs false
namespace Go.Proofs.Ytbmdglbhmianjaa.diskl6
open Go.RowKit Go.Proofs.YtbmdglbhmianjaaW.PrintWords Go.Proofs.Ytbmdglbhmianjaa.base Go.Proofs.Ytbmdglbhmianjaa.mem Go.Proofs.Ytbmdglbhmianjaa.keep Go.Proofs.Ytbmdglbhmianjaa.samew Go.Proofs.Ytbmdglbhmianjaa.diskp Go.Proofs.Ytbmdglbhmianjaa.diskr Go.Proofs.Ytbmdglbhmianjaa.refr Go.Proofs.Ytbmdglbhmianjaa.refw Go.Proofs.Ytbmdglbhmianjaa.diskw Go.Proofs.Ytbmdglbhmianjaa.clone Go.Proofs.Ytbmdglbhmianjaa.ops

theorem disj_a {w w1 : World} {base p q : Nat} {cs cs' ct : Nat → Sl} (hd : ∀ g, Ft p cs g → ¬ Ft q ct g) (s : DStep w base p cs w1 cs') (ho : ∀ g, Ft q ct g → g < w.heap.size) : ∀ g, Ft p cs' g → ¬ Ft q ct g := fun g hg h => by
  rcases s.foot g hg with e | e
  · exact hd g e h
  · have := ho g h
    omega
theorem disj_b {w w1 : World} {base p q : Nat} {cs ct ct' : Nat → Sl} (hd : ∀ g, Ft p cs g → ¬ Ft q ct g) (s : DStep w base q ct w1 ct') (h : ∀ g, Ft p cs g → g < w.heap.size) : ∀ g, Ft p cs g → ¬ Ft q ct' g := fun g hg hq => by
  rcases s.foot g hq with e | e
  · exact hd g hg e
  · have := h g hg
    omega
set_option maxHeartbeats 8000000 in
set_option maxRecDepth 100000 in
theorem doesLaw (A1 : Option Addr) (n1 c1 : Nat) (xs1 : List Int) (A2 : Option Addr) (n2 c2 : Nat) (xs2 : List Int) (A : Option Addr) (n c : Nat) (os : List O) (w : World) (hr1 : RdB w A1 n1 xs1) (hc1 : n1 ≤ c1) (hz1 : n1 + 1 ≤ 1048576) (hr2 : RdB w A2 n2 xs2) (hc2 : n2 ≤ c2) (hz2 : n2 + 1 ≤ 1048576) (hr : RdO w A n os) (hc : n ≤ c) (hz : sumB os + n + 1 ≤ 1048576) :
    Calls Try.prog 8 #[.slice A1 n1 c1, .slice A2 n2 c2, .slice A n c] w fun e w' => e = .returned (.bool true) ∧ Below w.heap.size w w' := by
  have HR := Lib.hid hr
  have HR1 := Lib.hid hr1
  have HR2 := Lib.hid hr2
  have hln := hr.len
  have hl1 := hr1.len
  have hl2 := hr2.len
  clear hr hr1 hr2
  go_enter Try.func8, Try.ntmps8
  go_wp2_with fail
  refine (wakes_any w).mono ?_
  rintro e w1 ⟨rfl, hb1⟩
  have HB1 := Lib.hid hb1
  have hs1 := hb1.size
  have CL1 := Lib.hid (load_any A1 n1 c1 xs1 A2 n2 c2 xs2 w1 (HR1.out.below hb1) (by omega) (HR2.out.below hb1) (by omega))
  clear hb1
  go_wp2_with fail
  refine CL1.out.mono ?_
  rintro e w2 ⟨p, cs, rfl, hd2, hb2⟩
  have HB2 := Lib.hid (HB1.out.trans (hb2.mono hs1))
  have HD2 := Lib.hid hd2
  have hs2 := HB2.out.size
  have hs12 := hb2.size
  have CL2 := Lib.hid (rload_any A1 n1 c1 xs1 A2 n2 c2 xs2 w2 (HR1.out.below HB2.out) (by omega) (HR2.out.below HB2.out) (by omega))
  clear hb2 hd2
  go_wp2_with fail
  refine CL2.out.mono ?_
  rintro e w3 ⟨po, co, rfl, hd3, hb3⟩
  have HB3 := Lib.hid (HB2.out.trans (hb3.mono hs2))
  have HD3 := Lib.hid (HD2.out.below hb3)
  have HO3 := Lib.hid (hd3.less hs12)
  have HDJ3 : Hid (∀ g, Ft p cs g → ¬ Ft po co g) := Lib.hid fun g hg hq => by
    have h1 := (HD2.out.ft hg).2
    have h2 := (hd3.ft hq).1
    omega
  have HK3 : Hid (Ok (diskp.load xs1 xs2) (n1 + n2 + sumB (os.take 0)) 0) := Lib.hid ((Ok.load xs1 xs2).more (by simp [sumB]; omega) (by omega))
  clear hb3 hd3 hs12
  generalize diskp.load xs1 xs2 = d0 at *
  go_wp2
  go_loopw [27] (fun li wr => ∃ (i : Nat) (cr cq : Nat → Sl) (d : D), i ≤ n ∧ li = .int .i64 i ∧ Aside0 (DAt wr w1.heap.size p cr d) ∧ Aside0 (RAt wr w1.heap.size po cq d) ∧ Aside0 (∀ g, Ft p cr g → ¬ Ft po cq g) ∧ Aside0 (Ok d (n1 + n2 + sumB (os.take i)) i) ∧ Aside0 (Below w.heap.size w wr)) (fun li _ => n - (intOf li).toNat)
  case atStart => exact ⟨0, cs, co, _, by omega, rfl, ⟨HD3.out⟩, ⟨HO3.out⟩, ⟨HDJ3.out⟩, ⟨HK3.out⟩, ⟨HB3.out⟩⟩
  case round =>
    obtain ⟨i, cr, cq, d, hi, rfl, HD, HO, HDJ, HK, HB⟩ := hrel
    have hs := HB.out.size
    by_cases hlt : i < n
    · have hlg : i < os.length := by rw [hln]; exact hlt
      obtain ⟨b0, off, e0, hall⟩ := HR.out.at_ (by omega)
      have hat := (hall i hlt).below HB.out
      clear hall
      subst e0
      have hmem := getD_memO os i hlg
      have hq := HR.out.ok _ hmem
      have hrw := HR.out.rd _ hmem
      have hrd := hrw.below HB.out
      have hsm : sumB (os.take (i + 1)) = sumB (os.take i) + (os.getD i nilO).ys.length := by rw [take_snocO os i hlg, sumB_snoc]
      have hsl := sumB_take os (i + 1)
      obtain ⟨q, hqe⟩ : ∃ q, os.getD i nilO = q := ⟨_, rfl⟩
      rw [hqe] at hat hq hrd hrw hsm
      clear hqe hmem hlg
      obtain ⟨kd, f, nn, k, A', m', c', ys⟩ := q
      obtain ⟨e0, e1, e2, e3, e4⟩ := hat
      obtain ⟨q0, q1, q2, q3, q4⟩ := hq
      dsimp only at e0 e1 e2 e3 e4 q0 q1 q2 q3 q4 hrd hrw hsm
      have hml := hrd.len
      have BA := Lib.hid (below_alloc (Below.refl wr.heap.size wr) (.cells #[.int .i64 kd, .int .i64 f, .int .i64 nn, .int .i64 k, .slice A' m' c'] 40))
      have HBX := Lib.hid (BoxO.new wr kd f nn k A' m' c')
      have HBA := Lib.hid (HB.out.trans (BA.out.mono HB.out.size))
      have HDA := Lib.hid (HD.out.below BA.out)
      have HOA := Lib.hid (HO.out.below BA.out)
      have HRQ := Lib.hid (hrd.below BA.out)
      have HRW := Lib.hid hrw
      have HNF : Hid (¬ Ft p cr wr.heap.size) := Lib.hid fun e => Nat.lt_irrefl _ (HD.out.ft e).2
      have HFIT := Lib.hid (HK.out.fit (by omega) (by omega))
      have HFS := Lib.hid (HK.out.fits (m := m') (by omega))
      have hK1 := HK.out.do_ kd f (n := nn) (k := k) ys q2.2 q3
      rw [Nat.add_assoc, ← hsm] at hK1
      have HK1 := Lib.hid hK1
      have HSL := Lib.hid (show n1 + n2 + sumB (os.take (i + 1)) ≤ 17592186044416 by omega)
      have HQ2 := Lib.hid q2
      have HQ3 := Lib.hid q3
      have CDO := Lib.hid (does_any HDA.out HFIT.out kd f nn k A' m' c' ys HRQ.out HFS.out HQ2.out HQ3.out)
      have CSY := Lib.hid (fun W cW (h : RAt W w1.heap.size po cW d) (hr : RdB W A' m' ys) => says_any h HFIT.out kd f nn k A' m' c' ys hr HFS.out HQ2.out HQ3.out)
      unfold opV at CDO CSY
      obtain ⟨x0, x1, x2, x3, x4⟩ := HBX.out
      clear hrd hrw hK1 q0 q1 q2 q3 q4 hsm hsl
      generalize doR d kd f nn k ys = R at *
      obtain ⟨d1, out, r⟩ := R
      dsimp only at CDO CSY HK1
      go_wp2_with fail
      refine CDO.out.mono ?_
      rintro e w5 ⟨A5, n5, c5, rfl, ho5, cs5, h5, s5⟩
      have HB5 := Lib.hid (HBA.out.trans (s5.bel.mono hs1))
      obtain ⟨x0, x1, x2, x3, x4⟩ := HBX.out.past HNF.out s5
      have H5 := Lib.hid h5
      have HO5 := Lib.hid (HOA.out.kept s5.keep (fun g hg e => HDJ.out g e hg))
      have HDJ5 := Lib.hid (disj_a HDJ.out s5 (fun g hg => (HOA.out.ft hg).2))
      have HG5 := Lib.hid ho5
      have CSZ := Lib.hid (CSY.out w5 cq HO5.out (HRW.out.below HB5.out))
      have HSA := Lib.hid s5.keep.1
      clear ho5 h5 s5 CSY
      go_wp2_with fail
      refine CSZ.out.mono ?_
      rintro e w6 ⟨A6, n6, c6, rfl, ho6, cs6, h6, s6⟩
      have HB6 := Lib.hid (HB5.out.trans (s6.bel.mono hs1))
      have HO6 := Lib.hid h6
      have H6 := Lib.hid (H5.out.kept s6.keep (fun g hg e => HDJ5.out g hg e))
      have HDJ6 := Lib.hid (disj_b HDJ5.out s6 (fun g hg => (H5.out.ft hg).2))
      have HG6 := Lib.hid (own_past HG5.out (fun g hg => Nat.lt_of_lt_of_le (HO.out.ft hg).2 BA.out.size) s6).rd
      have HW6 := Lib.hid ho6.rd
      clear ho6 h6 s6
      have hsb := Lib.hid (HK1.out.fit HSL.out (by omega)).b
      -- the region
      obtain ⟨y0, _, y1, _, y4, y5, _, _⟩ := HO6.out.cells
      have R0 := Lib.hid (HO6.out.row 0 (by omega)).rd
      have R2 := Lib.hid (HO6.out.row 2 (by omega)).rd
      obtain ⟨ob, hob⟩ : ∃ ob, d1.off = ob := ⟨_, rfl⟩
      obtain ⟨nb, hnb⟩ : ∃ nb, (!ob) = nb := ⟨_, rfl⟩
      rw [hob, hnb] at y4
      have hbn : (!nb) = ob := by rw [← hnb, Bool.not_not]
      have HOB := Lib.hid hob
      clear hob hnb
      obtain ⟨dn, hdn⟩ : ∃ dn, d1.n = dn := ⟨_, rfl⟩
      rw [hdn] at y5
      have HDN := Lib.hid hdn
      clear hdn
      obtain ⟨sA, hsA⟩ : ∃ x, (cs6 0).A = x := ⟨_, rfl⟩
      obtain ⟨sn, hsn⟩ : ∃ x, (cs6 0).n = x := ⟨_, rfl⟩
      obtain ⟨sc, hsc⟩ : ∃ x, (cs6 0).c = x := ⟨_, rfl⟩
      obtain ⟨uA, huA⟩ : ∃ x, (cs6 2).A = x := ⟨_, rfl⟩
      obtain ⟨un, hun⟩ : ∃ x, (cs6 2).n = x := ⟨_, rfl⟩
      obtain ⟨uc, huc⟩ : ∃ x, (cs6 2).c = x := ⟨_, rfl⟩
      rw [hsA, hsn, hsc] at y0
      rw [huA, hun, huc] at y1
      have R0 : Hid (RdB w6 sA sn (d1.b 0)) := Lib.hid (by rw [← hsA, ← hsn]; exact R0.out)
      have R2 : Hid (RdB w6 uA un (d1.b 2)) := Lib.hid (by rw [← huA, ← hun]; exact R2.out)
      clear hsA hsn hsc huA hun huc
      have HY0 := Lib.hid y0
      have HY1 := Lib.hid y1
      have HY4 := Lib.hid y4
      have HY5 := Lib.hid y5
      have hrr : (r != r) = false := by simp
      have hoo : (ob != ob) = false := by simp
      have hnn : (dn != dn) = false := by simp
      have DD := Lib.hid (Below.refl w6.heap.size w6).drew
      have CS1 := Lib.hid (same_any A5 n5 c5 out A6 n6 c6 out w6.drew (HG6.out.below DD.out) (HW6.out.below DD.out))
      rw [eqL_self] at CS1
      go_wp2_with fail
      go_region_held3 (fun W : World => W.cell? ⟨po, 4, none⟩ = some (.bool nb) ∧ W.cell? ⟨po, 5, none⟩ = some (.int .i64 dn) ∧ W.cell? ⟨po, 0, none⟩ = some (.slice sA sn sc) ∧ W.cell? ⟨po, 1, none⟩ = some (.slice uA un uc)) (first | assumption | exact ⟨by assumption, by assumption, by assumption, by assumption⟩) (first | (go_at_call 12; ((with_reducible refine CS1.out.mono ?_)); rintro e w7 ⟨rfl, hd7⟩; have B7 := Lib.hid (DD.out.trans hd7.below); have H7 := Lib.hid (H6.out.below B7.out); have z4 := pw_cell_below B7.out HY4.out; have z5 := pw_cell_below B7.out HY5.out; have z0 := pw_cell_below B7.out HY0.out; have z1 := pw_cell_below B7.out HY1.out; have CDN := Lib.hid (down_any H7.out); have CWR := Lib.hid (writes_any H7.out); have CS0 := Lib.hid (safe_any H7.out hsb.out 0); rw [HOB.out] at CDN; rw [HDN.out] at CWR; clear hd7) | (go_at_call 17; refine CDN.out.mono ?_; rintro e w' ⟨rfl, rfl⟩) | (go_at_call 18; refine CWR.out.mono ?_; rintro e w' ⟨rfl, rfl⟩) | (go_at_call 14; ((with_reducible refine CS0.out.mono ?_)); rintro e w8 ⟨A8, n8, c8, rfl, ho8, hb8⟩; have B8 := Lib.hid (B7.out.trans (hb8.mono B7.out.size)); have H8 := Lib.hid (H6.out.below B8.out); have z4b := pw_cell_below B8.out HY4.out; have z5b := pw_cell_below B8.out HY5.out; have z0b := pw_cell_below B8.out HY0.out; have z1b := pw_cell_below B8.out HY1.out; have CS2 := Lib.hid (same_any A8 n8 c8 _ sA sn sc (d1.b 0) w8 ho8.rd (R0.out.below B8.out)); rw [show safeR d1 0 = d1.b 0 from rfl, eqL_self] at CS2; clear ho8 hb8) | (go_at_call 12; ((with_reducible refine CS2.out.mono ?_)); rintro e w9 ⟨rfl, hd9⟩; have B9 := Lib.hid (B8.out.trans (hd9.below.mono B8.out.size)); have H9 := Lib.hid (H6.out.below B9.out); have z4c := pw_cell_below B9.out HY4.out; have z5c := pw_cell_below B9.out HY5.out; have z0c := pw_cell_below B9.out HY0.out; have z1c := pw_cell_below B9.out HY1.out; have CS3 := Lib.hid (safe_any H9.out hsb.out 1); clear hd9) | (go_at_call 14; ((with_reducible refine CS3.out.mono ?_)); rintro e w10 ⟨A10, n10, c10, rfl, ho10, hb10⟩; have B10 := Lib.hid (B9.out.trans (hb10.mono B9.out.size)); have z4d := pw_cell_below B10.out HY4.out; have z5d := pw_cell_below B10.out HY5.out; have z0d := pw_cell_below B10.out HY0.out; have z1d := pw_cell_below B10.out HY1.out; have CS4 := Lib.hid (same_any A10 n10 c10 _ uA un uc (d1.b 2) w10 ho10.rd (R2.out.below B10.out)); rw [show safeR d1 1 = d1.b 2 from rfl, eqL_self] at CS4; clear ho10 hb10) | (go_at_call 12; ((with_reducible refine CS4.out.mono ?_)); rintro e w11 ⟨rfl, hd11⟩; have B11 := Lib.hid (B10.out.trans (hd11.below.mono B10.out.size)); have z4e := pw_cell_below B11.out HY4.out; have z5e := pw_cell_below B11.out HY5.out; have z0e := pw_cell_below B11.out HY0.out; have z1e := pw_cell_below B11.out HY1.out; clear hd11))
      have HBF := Lib.hid (HB6.out.trans (B11.out.mono HB6.out.size))
      have HDF := Lib.hid (H6.out.below B11.out)
      have HOF := Lib.hid (HO6.out.below B11.out)
      go_wp2
      go_roundw
      case rel => exact ⟨i + 1, cs5, cs6, d1, by omega, by go_num, ⟨HDF.out⟩, ⟨HOF.out⟩, ⟨HDJ6.out⟩, ⟨HK1.out⟩, ⟨HBF.out⟩⟩
      case measure => simp [intOf]; omega
    · have hin : i ≤ n := hi
      have HSB := Lib.hid (HK.out.fit (show n1 + n2 + sumB (os.take i) ≤ 17592186044416 by have := sumB_take os i; omega) (by omega)).b
      have CE2 := Lib.hid (safe_any HD.out HSB.out 2)
      rw [show safeR d 2 = [] from rfl] at CE2
      go_wp2_with fail
      refine CE2.out.mono ?_
      rintro e w4 ⟨A4, n4, c4, rfl, ho4, hb4⟩
      have HB4 := Lib.hid (HB.out.trans (hb4.mono HB.out.size))
      have HD4 := Lib.hid (HD.out.below hb4)
      have hl4 := ho4.len
      simp only [List.length_nil] at hl4
      subst hl4
      have CE3 := Lib.hid (safe_any HD4.out HSB.out (-1))
      rw [show safeR d (-1) = [] from rfl] at CE3
      clear ho4 hb4
      go_wp2_with fail
      refine CE3.out.mono ?_
      rintro e w5 ⟨A5, n5, c5, rfl, ho5, hb5⟩
      have HB5 := Lib.hid (HB4.out.trans (hb5.mono HB4.out.size))
      have hl5 := ho5.len
      simp only [List.length_nil] at hl5
      subst hl5
      clear ho5 hb5
      go_wp2
      go_ret
      exact ⟨rfl, HB5.out⟩
end Go.Proofs.Ytbmdglbhmianjaa.diskl6
