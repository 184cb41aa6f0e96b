/- The walk of the law DiskCounts. -/
import Derived.Test.YtbmdglbhmianjaaDiskDoes
set_option linter.unusedVariables false
set_option linter.unusedSimpArgs false
namespace Go.Proofs.Ytbmdglbhmianjaa.diskl1
open Go.RowKit Go.Proofs.YtbmdglbhmianjaaW.PrintWords Go.Proofs.Ytbmdglbhmianjaa.base Go.Proofs.Ytbmdglbhmianjaa.mem Go.Proofs.Ytbmdglbhmianjaa.keep Go.Proofs.Ytbmdglbhmianjaa.samew Go.Proofs.Ytbmdglbhmianjaa.diskp Go.Proofs.Ytbmdglbhmianjaa.diskr Go.Proofs.Ytbmdglbhmianjaa.diskw Go.Proofs.Ytbmdglbhmianjaa.clone

theorem and_63 (n : Int) : 0 ≤ Go.bits .and .i64 n 63 ∧ Go.bits .and .i64 n 63 ≤ 63 := by
  unfold Go.bits
  have h : (BitVec.ofInt IntKind.i64.bits n &&& BitVec.ofInt IntKind.i64.bits 63).toNat ≤ 63 := by
    rw [BitVec.toNat_and]
    exact Nat.le_trans Nat.and_le_right (by decide)
  simp only [IntKind.wrap_i64]
  omega
theorem and_1 : ∀ j : Fin 72, 0 ≤ Go.bits .and .i64 (j.val : Int) 1 ∧ Go.bits .and .i64 (j.val : Int) 1 ≤ 1 := by decide +kernel
theorem gone_quiet {d : D} (ho : d.off = false) (ha : d.a ≠ 1) : (rawD d).2 = false ∧ (gone d).off = false ∧ (gone d).n = d.n + 1 ∧ (gone d).a = (if d.a = 0 then 0 else d.a - 1) := by
  have h : (rawD d).2 = false := by
    unfold rawD
    split
    · rfl
    · simp; omega
  have hg : gone d = (rawD d).1 := by unfold gone; rw [if_neg (by rw [h]; decide)]
  refine ⟨h, ?_⟩
  rw [hg]
  unfold rawD
  by_cases h0 : d.a = 0
  · rw [if_pos h0, if_pos h0]; exact ⟨ho, rfl, h0⟩
  · rw [if_neg h0, if_neg h0]; exact ⟨ho, rfl, rfl⟩
theorem gone_off {d : D} (ho : d.off = false) (ha : d.a = 1) : (rawD d).2 = true ∧ (gone d).off = true ∧ (gone d).n = d.n + 1 ∧ (gone d).a = 0 := by
  have h : (rawD d).2 = true := by
    unfold rawD
    rw [if_neg (by omega)]
    simp [ha]
  have hg : gone d = offD (rawD d).1 d.k := by unfold gone; rw [if_pos h]
  refine ⟨h, ?_⟩
  rw [hg]
  have hr : (rawD d).1 = ⟨d.b, d.off, d.n + 1, d.a - 1, d.k⟩ := by unfold rawD; rw [if_neg (by omega)]
  rw [hr]
  unfold offD
  rw [if_neg (by show ¬ d.off = true; rw [ho]; decide)]
  exact ⟨rfl, rfl, rfl⟩
theorem app_ok {d : D} (ho : d.off = false) {f : Int} (hf : 0 ≤ f ∧ f ≤ 1) (ys : List Int) : rdy d f = 0 ∧ appR d f ys = (appD d f.toNat ys, ans (rawD d).2) := by
  have h : rdy d f = 0 := by
    unfold rdy
    rw [if_neg (by omega), ho]
    rfl
  refine ⟨h, ?_⟩
  unfold appR
  rw [if_neg (by rw [h]; decide)]
theorem app_quiet {d : D} (ho : d.off = false) {f : Int} (hf : 0 ≤ f ∧ f ≤ 1) (ha : d.a ≠ 1) (ys : List Int) : (appR d f ys).2 = 0 ∧ (appR d f ys).1.off = false ∧ (appR d f ys).1.n = d.n + 1 ∧ (appR d f ys).1.a = (if d.a = 0 then 0 else d.a - 1) := by
  rw [(app_ok ho hf ys).2]
  have h := gone_quiet (d := putB d (2 * f.toNat + 1) (d.b (2 * f.toNat + 1) ++ ys)) ho ha
  rw [rawD_put] at h
  exact ⟨by show ans (rawD d).2 = 0; rw [h.1]; rfl, h.2⟩
theorem app_gone {d : D} (ho : d.off = false) {f : Int} (hf : 0 ≤ f ∧ f ≤ 1) (ha : d.a = 1) (ys : List Int) : (appR d f ys).2 = 40 ∧ (appR d f ys).1.off = true ∧ (appR d f ys).1.n = d.n + 1 ∧ (appR d f ys).1.a = 0 := by
  rw [(app_ok ho hf ys).2]
  have h := gone_off (d := putB d (2 * f.toNat + 1) (d.b (2 * f.toNat + 1) ++ ys)) ho ha
  rw [rawD_put] at h
  exact ⟨by show ans (rawD d).2 = 40; rw [h.1]; rfl, h.2⟩
/-- with the power off -/
theorem down_all {d : D} (ho : d.off = true) (ys : List Int) : appR d 0 ys = (d, 40) ∧ syncR d 1 = (d, 40) ∧ cutR d 0 0 = (d, 40) := by
  have h0 : rdy d 0 = 40 := by unfold rdy; rw [if_neg (by decide), ho]; rfl
  have h1 : rdy d 1 = 40 := by unfold rdy; rw [if_neg (by decide), ho]; rfl
  refine ⟨?_, ?_, ?_⟩
  · unfold appR; rw [h0]; rfl
  · unfold syncR; rw [h1]; rfl
  · unfold cutR; rw [h0, if_neg (by decide), if_neg (by omega), if_pos (by decide)]
/-- what is armed behind i rounds -/
def left (N i : Nat) : Int := if N = 0 then 0 else if i < N then (N : Int) - i else 0
theorem left_next {N i : Nat} (h : left N i ≠ 1) : (if left N i = 0 then 0 else left N i - 1) = left N (i + 1) := by
  unfold left at *
  split at * <;> (try split at *) <;> (try split) <;> omega
theorem left_one {N i : Nat} : left N i = 1 ↔ i + 1 = N := by
  unfold left
  split
  · omega
  · split <;> omega
theorem left_after {N i : Nat} (h : i + 1 = N) : left N (i + 1) = 0 := by
  unfold left
  rw [if_neg (by omega), if_neg (by omega)]
set_option maxHeartbeats 4000000 in
set_option maxRecDepth 100000 in
theorem countsLaw (n k : Int) (A : Option Addr) (m c : Nat) (ys : List Int) (w : World) (hn : -9223372036854775808 ≤ n ∧ n ≤ 9223372036854775807) (hk : -9223372036854775808 ≤ k ∧ k ≤ 9223372036854775807) (hr : RdB w A m ys) (hc : m ≤ c) (hm : m + 1 ≤ 1048576) :
    Calls Try.prog 4 #[.int .i64 n, .int .i64 k, .slice A m c] w fun e w' => e = .returned (.bool true) ∧ Below w.heap.size w w' := by
  have HR := Lib.hid hr
  have hml := hr.len
  obtain ⟨h63a, h63b⟩ := and_63 n
  clear hr
  go_enter Try.func4, Try.ntmps4
  go_wp2_with fail
  refine (wakes_any w).mono ?_
  rintro e w1 ⟨rfl, hb1⟩
  have HB1 := Lib.hid hb1
  clear hb1
  go_wp2_with fail
  refine (new_any w1).mono ?_
  rintro e w2 ⟨p, cs, rfl, hd2, hb2⟩
  have HB2 := Lib.hid (HB1.out.trans (hb2.mono HB1.out.size))
  have hs1 := HB1.out.size
  generalize hN : Go.bits .and .i64 n 63 = NN at h63a h63b
  obtain ⟨N, rfl⟩ := Int.eq_ofNat_of_zero_le h63a
  have HNN := Lib.hid hN
  have CA := Lib.hid (arm_any (d := diskp.load [] []) hd2 (N : Int) k (by omega))
  clear hb2 hd2 hN h63a
  go_wp2_with fail
  rw [HNN.out]
  refine CA.out.mono ?_
  rintro e w3 ⟨rfl, h3, s3⟩
  have H3 := Lib.hid h3
  have HB3 := Lib.hid (HB2.out.trans (s3.bel.mono hs1))
  have hok : Ok (armD (diskp.load [] []) (N : Int) k) (0 * m) 0 := by
    have := (Ok.load [] []).arm (n := (N : Int)) (k := k) (by omega) hk
    simpa using this
  have HOK := Lib.hid hok
  have hleft : (armD (diskp.load [] []) (N : Int) k).a = left N 0 := by
    show max (N : Int) 0 = _
    unfold left
    split
    · omega
    · rw [if_pos (by omega)]; omega
  have HLE := Lib.hid hleft
  clear h3 s3 hok hleft
  go_wp2
  go_loopw [8] (fun li wr => ∃ (i : Nat) (cr : Nat → Sl) (d : D), i ≤ 70 ∧ li = .int .i64 ((i + 1 : Nat) : Int) ∧ Aside0 (DAt wr w1.heap.size p cr d) ∧ Aside0 (Ok d (i * m) i) ∧ Aside0 (d.off = false ∧ d.n = i ∧ d.a = left N i) ∧ Aside0 (Below w.heap.size w wr)) (fun li _ => 71 - (intOf li).toNat)
  case atStart => exact ⟨0, cs, _, by omega, rfl, ⟨H3.out⟩, ⟨HOK.out⟩, ⟨rfl, rfl, HLE.out⟩, ⟨HB3.out⟩⟩
  case round =>
    obtain ⟨i, cr, d, hi, rfl, HD, HO, HS, HB⟩ := hrel
    have hs := HB.out.size
    by_cases hlt : i < 70
    · have hf := and_1 ⟨i + 1, by omega⟩
      dsimp only at hf
      rw [show ((i + 1 : Nat) : Int) = (i : Int) + 1 from by omega] at hf
      have HRr := Lib.hid (HR.out.below HB.out)
      have him : i * m + m ≤ 17592186044416 := by
        have : i * m ≤ 70 * m := Nat.mul_le_mul_right m (by omega)
        omega
      have hfit := HO.out.fit (by omega) (by omega)
      generalize hF : Go.bits .and .i64 ((i : Int) + 1) 1 = f at hf
      have HFF := Lib.hid hF
      have CP := Lib.hid (append_any HD.out hfit f A m c ys HRr.out (HO.out.fits him))
      have hO1 := (HO.out.app f ys)
      rw [hml, show i * m + m = (i + 1) * m from by rw [Nat.add_mul, Nat.one_mul]] at hO1
      have HO1 := Lib.hid hO1
      clear hfit hF hO1 him
      by_cases hiN : i + 1 = N
      · have hq := app_gone HS.out.1 hf (HS.out.2.2.trans (left_one.2 hiN)) ys
        rw [HS.out.2.1] at hq
        have HQ := Lib.hid hq
        rw [hq.1] at CP
        clear hq hf
        generalize (appR d f ys).1 = d1 at CP HO1 HQ
        have hib : (((i : Int) + 1) == (N : Int)) = true := by simp; omega
        have hibn : ((i + 1) == N) = true := by simp; omega
        have hic : (((i : Int) + 1) != (N : Int)) = false := by simp; omega
        have hicn : ((i + 1) != N) = false := by simp; omega
        have HIN := Lib.hid hiN
        clear hiN
        go_wp2_with fail
        rw [HFF.out]
        refine CP.out.mono ?_
        rintro e w4 ⟨rfl, cs4, h4, s4⟩
        have HB4 := Lib.hid (HB.out.trans (s4.bel.mono hs1))
        have hfit1 := HO1.out.fit (show (i + 1) * m ≤ 17592186044416 by
          have : (i + 1) * m ≤ 70 * m := Nat.mul_le_mul_right m (by omega)
          omega) (show i + 1 ≤ 4611686018427387904 by omega)
        have hfits1 := HO1.out.fits (m := m) (show (i + 1) * m + m ≤ 17592186044416 by
          have : (i + 1) * m ≤ 70 * m := Nat.mul_le_mul_right m (by omega)
          omega)
        obtain ⟨hd1, hd2, hd3⟩ := down_all HQ.out.2.1 ys
        have CDn := Lib.hid (down_any h4)
        have CWr := Lib.hid (writes_any h4)
        rw [HQ.out.2.1] at CDn
        rw [HQ.out.2.2.1] at CWr
        have CA2 := Lib.hid (append_any h4 hfit1 0 A m c ys (HR.out.below HB4.out) hfits1)
        rw [hd1] at CA2
        have H4 := Lib.hid h4
        have HFT := Lib.hid hfit1
        have HD2 := Lib.hid hd2
        have HD3 := Lib.hid hd3
        clear h4 s4 hfit1 hfits1 hd1 hd2 hd3 CP
        go_wp2_with fail
        refine CDn.out.mono ?_
        rintro e w' ⟨rfl, rfl⟩
        go_wp2_with fail
        refine CWr.out.mono ?_
        rintro e w' ⟨rfl, rfl⟩
        go_wp2_with fail
        refine CA2.out.mono ?_
        rintro e w5 ⟨rfl, cs5, h5, s5⟩
        have HB5 := Lib.hid (HB4.out.trans (s5.bel.mono hs1))
        have CS := Lib.hid (sync_any (d := d1) h5 HFT.out 1)
        rw [HD2.out] at CS
        clear h5 s5
        go_wp2_with fail
        refine CS.out.mono ?_
        rintro e w6 ⟨rfl, cs6, h6, s6⟩
        have HB6 := Lib.hid (HB5.out.trans (s6.bel.mono hs1))
        have CT := Lib.hid (trunc_any (d := d1) h6 HFT.out 0 0 (by decide))
        rw [HD3.out] at CT
        clear h6 s6
        go_wp2_with fail
        refine CT.out.mono ?_
        rintro e w7 ⟨rfl, cs7, h7, s7⟩
        have HB7 := Lib.hid (HB6.out.trans (s7.bel.mono hs1))
        have CW2 := Lib.hid (writes_any (d := d1) h7)
        rw [HQ.out.2.2.1] at CW2
        have CO := Lib.hid (on_any (d := d1) h7)
        clear h7 s7
        go_wp2_with fail
        refine CW2.out.mono ?_
        rintro e w' ⟨rfl, rfl⟩
        go_wp2_with fail
        refine CO.out.mono ?_
        rintro e w8 ⟨rfl, h8, s8⟩
        have HB8 := Lib.hid (HB7.out.trans (s8.bel.mono hs1))
        have H8 := Lib.hid h8
        clear h8 s8
        go_wp2
        go_roundw
        case rel => exact ⟨i + 1, cs7, onD d1, by omega, by go_num, ⟨H8.out⟩, ⟨HO1.out.on⟩, ⟨rfl, by rw [show (onD d1).n = d1.n from rfl, HQ.out.2.2.1]; omega, by rw [show (onD d1).a = d1.a from rfl, HQ.out.2.2.2, left_after HIN.out]⟩, ⟨HB8.out⟩⟩
        case measure => simp [intOf]; omega
      · have hq := app_quiet HS.out.1 hf (fun e => hiN (left_one.1 (HS.out.2.2.symm.trans e))) ys
        rw [HS.out.2.1, HS.out.2.2, left_next (fun e => hiN (left_one.1 e))] at hq
        have HQ := Lib.hid hq
        rw [hq.1] at CP
        clear hq hf
        generalize (appR d f ys).1 = d1 at CP HO1 HQ
        have hib : (((i : Int) + 1) == (N : Int)) = false := beq_eq_false_iff_ne.2 (by omega)
        have hibn : ((i + 1) == N) = false := beq_eq_false_iff_ne.2 hiN
        go_wp2_with fail
        rw [HFF.out]
        refine CP.out.mono ?_
        rintro e w4 ⟨rfl, cs4, h4, s4⟩
        have HB4 := Lib.hid (HB.out.trans (s4.bel.mono hs1))
        have CDn := Lib.hid (down_any h4)
        have CWr := Lib.hid (writes_any h4)
        rw [HQ.out.2.1] at CDn
        rw [HQ.out.2.2.1] at CWr
        have H4 := Lib.hid h4
        clear h4 s4 CP
        go_wp2_with fail
        refine CDn.out.mono ?_
        rintro e w' ⟨rfl, rfl⟩
        go_wp2_with fail
        refine CWr.out.mono ?_
        rintro e w' ⟨rfl, rfl⟩
        go_wp2
        go_roundw
        case rel => exact ⟨i + 1, cs4, d1, by omega, by go_num, ⟨H4.out⟩, ⟨HO1.out⟩, ⟨HQ.out.2.1, by rw [HQ.out.2.2.1]; omega, HQ.out.2.2.2⟩, ⟨HB4.out⟩⟩
        case measure => simp [intOf]; omega
    · go_wp2
      go_ret
      exact ⟨rfl, HB.out⟩
end Go.Proofs.Ytbmdglbhmianjaa.diskl1
