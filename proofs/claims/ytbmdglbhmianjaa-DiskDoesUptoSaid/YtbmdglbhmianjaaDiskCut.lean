/- What the disk's Truncate computes. -/
import Derived.Test.YtbmdglbhmianjaaDiskSync
set_option linter.unusedVariables false
set_option linter.unusedSimpArgs false
namespace Go.Proofs.Ytbmdglbhmianjaa.diskw
open Go.RowKit Go.Proofs.YtbmdglbhmianjaaW.PrintWords Go.Proofs.Ytbmdglbhmianjaa.base Go.Proofs.Ytbmdglbhmianjaa.mem Go.Proofs.Ytbmdglbhmianjaa.keep Go.Proofs.Ytbmdglbhmianjaa.diskp Go.Proofs.Ytbmdglbhmianjaa.diskr Go.Proofs.Ytbmdglbhmianjaa.ordt

theorem rdy_cases (d : D) (f : Int) : rdy d f = 1 ∨ ∃ i : Nat, f = i ∧ i < 2 ∧ rdy d f = ans d.off := by
  unfold rdy ans
  by_cases h : f < 0 ∨ 1 < f
  · exact .inl (if_pos h)
  · refine .inr ⟨f.toNat, ?_, ?_, if_neg h⟩
    · have h3 : ¬ f < 0 := fun e => h (.inl e)
      omega
    · have h4 : ¬ 1 < f := fun e => h (.inr e)
      omega
theorem take_K {xs : List Int} {q K : Nat} (h : K = min q xs.length) : xs.take q = xs.take K := by
  rw [h, ← List.take_take, List.take_length]
set_option maxHeartbeats 4000000 in
theorem trunc_any {w : World} {base p : Nat} {cs : Nat → Sl} {d : D} (h : DAt w base p cs d) (hd : Fit d) (f n : Int) (hn : -9223372036854775808 ≤ n ∧ n ≤ 9223372036854775807) :
    Calls Try.prog 20 #[.pointer (some ⟨p, 0, none⟩), .int .i64 f, .int .i64 n] w (RetD w base p cs (.int .i64 (cutR d f n).2) (cutR d f n).1) := by
  have HRD := Lib.hid (ready_any h f)
  have H := Lib.hid h
  have HA : Hid (cutR d f n = if rdy d f = 1 then (d, 1) else if n < 0 ∨ ((fileB d f.toNat).length : Int) < n then (d, 1) else if rdy d f ≠ 0 then (d, rdy d f) else (cutD d f.toNat n.toNat, ans (rawD d).2)) := Lib.hid rfl
  rcases rdy_cases d f with h1 | ⟨i, rfl, hi, hre⟩
  · have HA := Lib.hid (HA.out.trans (if_pos h1))
    rw [h1] at HRD
    clear h hd h1
    go_enter Try.func20, Try.ntmps20
    go_wp2_with fail
    refine HRD.out.mono ?_
    rintro e w' ⟨rfl, rfl⟩
    go_wp2
    go_ret
    exact ⟨by rw [HA.out]; rfl, cs, by rw [HA.out]; exact H.out, DStep.refl _ _ _ _⟩
  · have htn : (i : Int).toNat = i := by omega
    have hr1 : rdy d (i : Int) ≠ 1 := by rw [hre]; unfold ans; split <;> decide
    have HA := Lib.hid (HA.out.trans (if_neg hr1))
    rw [htn] at HA
    rw [hre] at HRD HA
    have hii : (i : Int) < 2 := by omega
    have e0 := h.at0 hi
    have e1 := h.at1 hi
    have RS : Hid (OwB w base (cs (2 * i)).A (cs (2 * i)).n (cs (2 * i)).c (d.b (2 * i))) := Lib.hid (h.row (2 * i) (by omega))
    have RW : Hid (OwB w base (cs (2 * i + 1)).A (cs (2 * i + 1)).n (cs (2 * i + 1)).c (d.b (2 * i + 1))) := Lib.hid (h.row (2 * i + 1) (by omega))
    have l0 : (cs (2 * i)).n ≤ 17592186044416 := by rw [← RS.out.len]; exact hd.b _ (by omega)
    have l1 : (cs (2 * i + 1)).n ≤ 17592186044416 := by rw [← RW.out.len]; exact hd.b _ (by omega)
    have hfl : (fileB d i).length = (cs (2 * i)).n + (cs (2 * i + 1)).n := by unfold fileB; rw [List.length_append, RS.out.len, RW.out.len]
    rw [hfl] at HA
    have HDR := Lib.hid (fun q => h.below (pw_below_drewN (Below.refl w.heap.size w) q))
    have SDR := Lib.hid (fun q => DStep.below (cs := cs) (p := p) (pw_below_drewN (Below.refl w.heap.size w) q) h.base_le)
    have HRaw := Lib.hid (fun q => raw_any (HDR.out q) hd.n hd.a)
    have HKK := Lib.hid (rawD_off d).2.2
    have HBB := Lib.hid (rawD_off d).2.1
    have HSM := Lib.hid hd.raw
    have HK := Lib.hid hd.k
    have hw1 : IntKind.i64.wrap (((cs (2 * i)).n : Int) + ((cs (2 * i + 1)).n : Int)) = ((cs (2 * i)).n : Int) + ((cs (2 * i + 1)).n : Int) := by rw [IntKind.wrap_i64]; omega
    have hS : Hid (cutD d i n.toNat = if (rawD d).2 then gone d else cutB (gone d) i n.toNat) := Lib.hid rfl
    have HG : Hid (gone d = if (rawD d).2 then offD (rawD d).1 d.k else (rawD d).1) := Lib.hid rfl
    have HLS := Lib.hid RS.out.len
    have HLW := Lib.hid RW.out.len
    have hcS := RS.out.cap
    have hcW := RW.out.cap
    clear h hd htn hr1 hre hfl RS RW
    obtain ⟨hn0, hn1⟩ := hn
    generalize (rawD d).2 = gg at *
    generalize hd2 : (rawD d).1 = d2 at *
    clear hd2
    obtain ⟨sA, hsA⟩ : ∃ x, (cs (2 * i)).A = x := ⟨_, rfl⟩
    obtain ⟨sn, hsn⟩ : ∃ x, (cs (2 * i)).n = x := ⟨_, rfl⟩
    obtain ⟨sc, hsc⟩ : ∃ x, (cs (2 * i)).c = x := ⟨_, rfl⟩
    obtain ⟨wA, hwA⟩ : ∃ x, (cs (2 * i + 1)).A = x := ⟨_, rfl⟩
    obtain ⟨wn, hwn⟩ : ∃ x, (cs (2 * i + 1)).n = x := ⟨_, rfl⟩
    obtain ⟨wc, hwc⟩ : ∃ x, (cs (2 * i + 1)).c = x := ⟨_, rfl⟩
    rw [hsA, hsn, hsc] at e0
    rw [hwA, hwn, hwc] at e1
    rw [hsn] at l0 hcS HLS
    rw [hwn] at l1 hcW HLW
    rw [hsn, hwn] at hw1 HA
    rw [hsc] at hcS
    rw [hwc] at hcW
    have HsA := Lib.hid hsA
    have Hsn := Lib.hid hsn
    have Hsc := Lib.hid hsc
    have HwA := Lib.hid hwA
    have Hwn := Lib.hid hwn
    have Hwc := Lib.hid hwc
    clear hsA hsn hsc hwA hwn hwc
    by_cases hbad : n < 0 ∨ ((sn : Int) + (wn : Int)) < n
    · have HA := Lib.hid (HA.out.trans (if_pos (by simpa using hbad)))
      have HRt : Hid (∀ q, RetD w base p cs (.int .i64 (cutR d (i : Int) n).2) (cutR d (i : Int) n).1 (.returned (.int .i64 1)) (w.drewN q)) := Lib.hid fun q => ⟨by rw [HA.out], cs, by rw [HA.out]; exact HDR.out q, SDR.out q⟩
      cases ho : d.off
      all_goals
        rw [ho] at HRD
        rcases hbad with hb | hb
        · go_enter Try.func20, Try.ntmps20
          go_wp2_with fail
          refine HRD.out.mono ?_
          rintro e w' ⟨rfl, rfl⟩
          simp only [ans, if_true, if_false, Bool.false_eq_true]
          go_wp2_with fail
          go_quiet (fail)
          go_wp2
          go_ret
          exact HRt.out _
        · have hb0 : ¬ n < 0 := by omega
          go_enter Try.func20, Try.ntmps20
          go_wp2_with fail
          refine HRD.out.mono ?_
          rintro e w' ⟨rfl, rfl⟩
          simp only [ans, if_true, if_false, Bool.false_eq_true]
          go_wp2_with fail
          go_quiet (fail)
          go_wp2
          go_ret
          exact HRt.out _
    · have hb0 : ¬ n < 0 := fun e => hbad (.inl e)
      have hb1 : ¬ ((sn : Int) + (wn : Int)) < n := fun e => hbad (.inr e)
      have HA := Lib.hid (HA.out.trans (if_neg (by simpa using hbad)))
      clear hbad
      cases ho : d.off
      · rw [ho] at HRD HA
        have HA := Lib.hid (HA.out.trans (if_neg (by simp [ans])))
        clear ho
        go_enter Try.func20, Try.ntmps20
        go_wp2_with fail
        refine HRD.out.mono ?_
        rintro e w' ⟨rfl, rfl⟩
        simp only [ans, if_true, if_false, Bool.false_eq_true]
        go_wp2_with fail
        go_quiet (fail)
        clear hw1 e0 e1
        go_wp2_with fail
        refine (HRaw.out _).mono ?_
        rintro e w3 ⟨rfl, h3, s3⟩
        have S3 := Lib.hid ((SDR.out _).trans s3)
        clear HDR SDR HRaw s3
        cases gg
        · have e0 := h3.at0 hi
          have e1 := h3.at1 hi
          have f0 := h3.free (i * 2)
          have f1 := h3.free (i * 2 + 1)
          have RS0 := h3.row (2 * i) (by omega)
          have RW0 := h3.row (2 * i + 1) (by omega)
          unfold OwS at RS0 RW0
          rw [HsA.out, Hsn.out, Hsc.out] at e0 RS0
          rw [HwA.out, Hwn.out, Hwc.out] at e1 RW0
          have RS := Lib.hid RS0
          have RW := Lib.hid RW0
          obtain ⟨K1, hK1⟩ : ∃ K1, n.toNat - sn = K1 := ⟨_, rfl⟩
          obtain ⟨K2, hK2⟩ : ∃ K2, min n.toNat sn = K2 := ⟨_, rfl⟩
          have k1w : K1 ≤ wn := by omega
          have k2s : K2 ≤ sn := by omega
          have mx1 : (if (sn : Int) < n then n - (sn : Int) else 0) = (K1 : Int) := by split <;> omega
          have mx2 : (if (sn : Int) < n then (sn : Int) else n) = (K2 : Int) := by split <;> omega
          have hw2 : IntKind.i64.wrap (n - (sn : Int)) = n - (sn : Int) := by rw [IntKind.wrap_i64]; omega
          have HA1 := Lib.hid (h3.slot (i := 2 * i + 1) (x := ⟨wA, K1, wc⟩) (by omega) (grownBy_self w3 _) (OwB.first RW.out K1 k1w) (fun g e => .inl (by unfold Sl.own; rw [HwA.out, Hwn.out, Hwc.out]; exact own_same e)))
          have hK1c : (K1 : Int) ≤ (wc : Int) := by omega
          have hK10 : (0 : Int) ≤ (K1 : Int) := by omega
          have hK2c : (K2 : Int) ≤ (sc : Int) := by omega
          have hK20 : (0 : Int) ≤ (K2 : Int) := by omega
          have HK1 := Lib.hid hK1
          have HK2 := Lib.hid hK2
          clear h3 RS0 RW0 hK1 hK2
          have D3 : Hid (w3.drew.heap = w3.heap) := Lib.hid rfl
          go_wp2_with fail
          refine begin_ (fun W : World => W.cell? ⟨p, i * 2, none⟩ = some (.slice sA sn sc) ∧ W.cell? ⟨p, i * 2 + 1, none⟩ = some (.slice wA wn wc)) [16] (by kernel_rfl) ?_
          have hSw : (fun W : World => W.cell? ⟨p, i * 2, none⟩ = some (.slice sA sn sc) ∧ W.cell? ⟨p, i * 2 + 1, none⟩ = some (.slice wA wn wc)) w3.drew := ⟨e0, e1⟩
          simp only [List.size_toArray, List.length_cons, List.length_nil, Nat.reduceAdd, Array.replicate_succ, Array.replicate_zero, List.push_toArray, List.append_toArray, List.nil_append, List.cons_append]
          refine move_a (i := 0) (v := ?_) rfl (by kernel_rfl) (by kernel_rfl) (by kernel_rfl) (fun _ _ _ h => h) (by rfl) ?_ ?_
          rotate_left
          · (intro w; go_simp; try with_reducible rfl)
          try simp only [Act.put, List.setIfInBounds_toArray, List.set_cons_zero, List.set_cons_succ]
          refine move_a (i := 1) (v := ?_) rfl (by kernel_rfl) (by kernel_rfl) (by kernel_rfl) (fun _ _ _ h => h) (by rfl) ?_ ?_
          rotate_left
          · (intro w; go_simp; try with_reducible rfl)
          try simp only [Act.put, List.setIfInBounds_toArray, List.set_cons_zero, List.set_cons_succ]
          refine move_a (i := 2) (v := ?_) rfl (by kernel_rfl) (by kernel_rfl) (by kernel_rfl) (fun _ _ _ h => h) (by rfl) ?_ ?_
          rotate_left
          · (intro w; go_simp; try with_reducible rfl)
          try simp only [Act.put, List.setIfInBounds_toArray, List.set_cons_zero, List.set_cons_succ]
          refine move_a (i := 3) (v := ?_) rfl (by kernel_rfl) (by kernel_rfl) (by kernel_rfl) (fun _ _ _ h => h) (by rfl) ?_ ?_
          rotate_left
          · (intro w; go_simp; try with_reducible rfl)
          try simp only [Act.put, List.setIfInBounds_toArray, List.set_cons_zero, List.set_cons_succ]
          refine move_b [13, 16] [16] (i := 4) (v := ?_) rfl (by kernel_rfl) (by kernel_rfl) (by kernel_rfl) (fun _ _ _ h => h) (by kernel_rfl) (by kernel_rfl) (by kernel_rfl) (by rfl) ?_ hSw ?_
          rotate_left
          · (intro w hSw; (try dsimp only at hSw); go_simp; try with_reducible rfl)
          try simp only [Act.put, List.setIfInBounds_toArray, List.set_cons_zero, List.set_cons_succ]
          refine move_a (i := 5) (v := ?_) rfl (by kernel_rfl) (by kernel_rfl) (by kernel_rfl) (fun _ _ _ h => h) (by rfl) ?_ ?_
          rotate_left
          · (intro w; go_simp; try with_reducible rfl)
          try simp only [Act.put, List.setIfInBounds_toArray, List.set_cons_zero, List.set_cons_succ]
          refine move_a (i := 6) (v := ?_) rfl (by kernel_rfl) (by kernel_rfl) (by kernel_rfl) (fun _ _ _ h => h) (by rfl) ?_ ?_
          rotate_left
          · (intro w; go_simp; try with_reducible rfl)
          try simp only [Act.put, List.setIfInBounds_toArray, List.set_cons_zero, List.set_cons_succ]
          refine move_a (i := 7) (v := ?_) rfl (by kernel_rfl) (by kernel_rfl) (by kernel_rfl) (fun _ _ _ h => h) (by rfl) ?_ ?_
          rotate_left
          · (intro w; go_simp; try with_reducible rfl)
          try simp only [Act.put, List.setIfInBounds_toArray, List.set_cons_zero, List.set_cons_succ]
          refine move_a (i := 8) (v := ?_) rfl (by kernel_rfl) (by kernel_rfl) (by kernel_rfl) (fun _ _ _ h => h) (by rfl) ?_ ?_
          rotate_left
          · (intro w; go_simp; try with_reducible rfl)
          try simp only [Act.put, List.setIfInBounds_toArray, List.set_cons_zero, List.set_cons_succ]
          refine move_b [10, 11, 12, 13, 16] [16] (i := 9) (v := ?_) rfl (by kernel_rfl) (by kernel_rfl) (by kernel_rfl) (fun _ _ _ h => h) (by kernel_rfl) (by kernel_rfl) (by kernel_rfl) (by rfl) ?_ hSw ?_
          rotate_left
          · (intro w hSw; (try dsimp only at hSw); go_simp; try with_reducible rfl)
          try simp only [Act.put, List.setIfInBounds_toArray, List.set_cons_zero, List.set_cons_succ]
          refine move_a (i := 10) (v := ?_) rfl (by kernel_rfl) (by kernel_rfl) (by kernel_rfl) (fun _ _ _ h => h) (by rfl) ?_ ?_
          rotate_left
          · (intro w; go_simp; try with_reducible rfl)
          try simp only [Act.put, List.setIfInBounds_toArray, List.set_cons_zero, List.set_cons_succ]
          refine move_a (i := 11) (v := ?_) rfl (by kernel_rfl) (by kernel_rfl) (by kernel_rfl) (fun _ _ _ h => h) (by rfl) ?_ ?_
          rotate_left
          · (intro w; go_simp; try with_reducible rfl)
          try simp only [Act.put, List.setIfInBounds_toArray, List.set_cons_zero, List.set_cons_succ]
          refine move_a (i := 12) (v := ?_) rfl (by kernel_rfl) (by kernel_rfl) (by kernel_rfl) (fun _ _ _ h => h) (by rfl) ?_ ?_
          rotate_left
          · (intro w; go_simp; try with_reducible rfl)
          try simp only [Act.put, List.setIfInBounds_toArray, List.set_cons_zero, List.set_cons_succ]
          refine move_a (i := 13) (v := ?_) rfl (by kernel_rfl) (by kernel_rfl) (by kernel_rfl) (fun _ _ _ h => h) (by rfl) ?_ ?_
          rotate_left
          · (intro w; go_simp; try with_reducible rfl)
          try simp only [Act.put, List.setIfInBounds_toArray, List.set_cons_zero, List.set_cons_succ]
          refine move_a (i := 14) (v := ?_) rfl (by kernel_rfl) (by kernel_rfl) (by kernel_rfl) (fun _ _ _ h => h) (by rfl) ?_ ?_
          rotate_left
          · (intro w; go_simp; try with_reducible rfl)
          try simp only [Act.put, List.setIfInBounds_toArray, List.set_cons_zero, List.set_cons_succ]
          refine move_a (i := 15) (v := ?_) rfl (by kernel_rfl) (by kernel_rfl) (by kernel_rfl) (fun _ _ _ h => h) (by rfl) ?_ ?_
          rotate_left
          · (intro w; go_simp; try with_reducible rfl)
          try simp only [Act.put, List.setIfInBounds_toArray, List.set_cons_zero, List.set_cons_succ]
          refine move_c (i := 16) (by kernel_rfl) rfl (by rfl) (fun K hK => ?_)
          go_simp
          refine hK _ _ ?_
          clear hK K
          try simp only [Act.put, List.setIfInBounds_toArray, List.set_cons_zero, List.set_cons_succ]
          refine move_d (by kernel_rfl) ?_
          rw [show (⟨p, i * 2 + 1, none⟩ : Addr) = ⟨p, 2 * i + 1, none⟩ from by rw [Nat.mul_comm]]
          obtain ⟨h4, s4⟩ := HA1.out
          have HX1 := Lib.hid (h4.drewd)
          have SX1 := Lib.hid (s4.drewd)
          rw [show (⟨wA, K1, wc⟩ : Sl).val = .slice wA K1 wc from rfl] at HX1 SX1
          clear h4 s4 HA1 e0 e1 f0 f1
          generalize (w3.setCell ⟨p, 2 * i + 1, none⟩ (.slice wA K1 wc)).drew = w4 at HX1 SX1 ⊢
          have e0 := HX1.out.at0 hi
          have f0 := HX1.out.free (i * 2)
          rw [upd_ne _ _ (show 2 * i ≠ 2 * i + 1 by omega), HsA.out, Hsn.out, Hsc.out] at e0
          have RS4 := HX1.out.row (2 * i) (by omega)
          unfold OwS at RS4
          rw [upd_ne _ _ (show 2 * i ≠ 2 * i + 1 by omega), HsA.out, Hsn.out, Hsc.out] at RS4
          have RS4' : OwB w4 base sA sn sc (d2.b (2 * i)) := by
            have : (putB d2 (2 * i + 1) ((d2.b (2 * i + 1)).take K1)).b (2 * i) = d2.b (2 * i) := upd_ne _ _ (show 2 * i ≠ 2 * i + 1 by omega)
            rw [this] at RS4
            exact RS4
          have HA2 := Lib.hid (HX1.out.slot (i := 2 * i) (x := ⟨sA, K2, sc⟩) (by omega) (grownBy_self w4 _) (OwB.first RS4' K2 k2s) (fun g e => .inl (by unfold Sl.own; rw [upd_ne _ _ (show 2 * i ≠ 2 * i + 1 by omega), HsA.out, Hsn.out, Hsc.out]; exact own_same e)))
          clear RS4 RS4'
          go_wp2_with fail
          refine begin_ (fun W : World => W.cell? ⟨p, i * 2, none⟩ = some (.slice sA sn sc)) [15] (by kernel_rfl) ?_
          have hSw : (fun W : World => W.cell? ⟨p, i * 2, none⟩ = some (.slice sA sn sc)) w4.drew := e0
          simp only [List.size_toArray, List.length_cons, List.length_nil, Nat.reduceAdd, Array.replicate_succ, Array.replicate_zero, List.push_toArray, List.append_toArray, List.nil_append, List.cons_append]
          refine move_a (i := 0) (v := ?_) rfl (by kernel_rfl) (by kernel_rfl) (by kernel_rfl) (fun _ _ _ h => h) (by rfl) ?_ ?_
          rotate_left
          · (intro w; go_simp; try with_reducible rfl)
          try simp only [Act.put, List.setIfInBounds_toArray, List.set_cons_zero, List.set_cons_succ]
          refine move_a (i := 1) (v := ?_) rfl (by kernel_rfl) (by kernel_rfl) (by kernel_rfl) (fun _ _ _ h => h) (by rfl) ?_ ?_
          rotate_left
          · (intro w; go_simp; try with_reducible rfl)
          try simp only [Act.put, List.setIfInBounds_toArray, List.set_cons_zero, List.set_cons_succ]
          refine move_a (i := 2) (v := ?_) rfl (by kernel_rfl) (by kernel_rfl) (by kernel_rfl) (fun _ _ _ h => h) (by rfl) ?_ ?_
          rotate_left
          · (intro w; go_simp; try with_reducible rfl)
          try simp only [Act.put, List.setIfInBounds_toArray, List.set_cons_zero, List.set_cons_succ]
          refine move_a (i := 3) (v := ?_) rfl (by kernel_rfl) (by kernel_rfl) (by kernel_rfl) (fun _ _ _ h => h) (by rfl) ?_ ?_
          rotate_left
          · (intro w; go_simp; try with_reducible rfl)
          try simp only [Act.put, List.setIfInBounds_toArray, List.set_cons_zero, List.set_cons_succ]
          refine move_b [12, 15] [15] (i := 4) (v := ?_) rfl (by kernel_rfl) (by kernel_rfl) (by kernel_rfl) (fun _ _ _ h => h) (by kernel_rfl) (by kernel_rfl) (by kernel_rfl) (by rfl) ?_ hSw ?_
          rotate_left
          · (intro w hSw; (try dsimp only at hSw); go_simp; try with_reducible rfl)
          try simp only [Act.put, List.setIfInBounds_toArray, List.set_cons_zero, List.set_cons_succ]
          refine move_a (i := 5) (v := ?_) rfl (by kernel_rfl) (by kernel_rfl) (by kernel_rfl) (fun _ _ _ h => h) (by rfl) ?_ ?_
          rotate_left
          · (intro w; go_simp; try with_reducible rfl)
          try simp only [Act.put, List.setIfInBounds_toArray, List.set_cons_zero, List.set_cons_succ]
          refine move_a (i := 6) (v := ?_) rfl (by kernel_rfl) (by kernel_rfl) (by kernel_rfl) (fun _ _ _ h => h) (by rfl) ?_ ?_
          rotate_left
          · (intro w; go_simp; try with_reducible rfl)
          try simp only [Act.put, List.setIfInBounds_toArray, List.set_cons_zero, List.set_cons_succ]
          refine move_a (i := 7) (v := ?_) rfl (by kernel_rfl) (by kernel_rfl) (by kernel_rfl) (fun _ _ _ h => h) (by rfl) ?_ ?_
          rotate_left
          · (intro w; go_simp; try with_reducible rfl)
          try simp only [Act.put, List.setIfInBounds_toArray, List.set_cons_zero, List.set_cons_succ]
          refine move_a (i := 8) (v := ?_) rfl (by kernel_rfl) (by kernel_rfl) (by kernel_rfl) (fun _ _ _ h => h) (by rfl) ?_ ?_
          rotate_left
          · (intro w; go_simp; try with_reducible rfl)
          try simp only [Act.put, List.setIfInBounds_toArray, List.set_cons_zero, List.set_cons_succ]
          refine move_b [10, 11, 12, 15] [15] (i := 9) (v := ?_) rfl (by kernel_rfl) (by kernel_rfl) (by kernel_rfl) (fun _ _ _ h => h) (by kernel_rfl) (by kernel_rfl) (by kernel_rfl) (by rfl) ?_ hSw ?_
          rotate_left
          · (intro w hSw; (try dsimp only at hSw); go_simp; try with_reducible rfl)
          try simp only [Act.put, List.setIfInBounds_toArray, List.set_cons_zero, List.set_cons_succ]
          refine move_a (i := 10) (v := ?_) rfl (by kernel_rfl) (by kernel_rfl) (by kernel_rfl) (fun _ _ _ h => h) (by rfl) ?_ ?_
          rotate_left
          · (intro w; go_simp; try with_reducible rfl)
          try simp only [Act.put, List.setIfInBounds_toArray, List.set_cons_zero, List.set_cons_succ]
          refine move_a (i := 11) (v := ?_) rfl (by kernel_rfl) (by kernel_rfl) (by kernel_rfl) (fun _ _ _ h => h) (by rfl) ?_ ?_
          rotate_left
          · (intro w; go_simp; try with_reducible rfl)
          try simp only [Act.put, List.setIfInBounds_toArray, List.set_cons_zero, List.set_cons_succ]
          refine move_a (i := 12) (v := ?_) rfl (by kernel_rfl) (by kernel_rfl) (by kernel_rfl) (fun _ _ _ h => h) (by rfl) ?_ ?_
          rotate_left
          · (intro w; go_simp; try with_reducible rfl)
          try simp only [Act.put, List.setIfInBounds_toArray, List.set_cons_zero, List.set_cons_succ]
          refine move_a (i := 13) (v := ?_) rfl (by kernel_rfl) (by kernel_rfl) (by kernel_rfl) (fun _ _ _ h => h) (by rfl) ?_ ?_
          rotate_left
          · (intro w; go_simp; try with_reducible rfl)
          try simp only [Act.put, List.setIfInBounds_toArray, List.set_cons_zero, List.set_cons_succ]
          refine move_a (i := 14) (v := ?_) rfl (by kernel_rfl) (by kernel_rfl) (by kernel_rfl) (fun _ _ _ h => h) (by rfl) ?_ ?_
          rotate_left
          · (intro w; go_simp; try with_reducible rfl)
          try simp only [Act.put, List.setIfInBounds_toArray, List.set_cons_zero, List.set_cons_succ]
          refine move_c (i := 15) (by kernel_rfl) rfl (by rfl) (fun K hK => ?_)
          go_simp
          refine hK _ _ ?_
          clear hK K
          try simp only [Act.put, List.setIfInBounds_toArray, List.set_cons_zero, List.set_cons_succ]
          refine move_d (by kernel_rfl) ?_
          rw [Nat.mul_comm i 2]
          obtain ⟨h5, s5⟩ := HA2.out
          have HX2 := Lib.hid h5.drewd
          have SX2 := Lib.hid s5.drewd
          rw [show (⟨sA, K2, sc⟩ : Sl).val = .slice sA K2 sc from rfl] at HX2 SX2
          clear h5 s5
          go_wp2
          go_ret
          refine ⟨by rw [HA.out]; rfl, _, ?_, S3.out.trans (SX1.out.trans SX2.out)⟩
          rw [HA.out, hS.out, HG.out]
          have hfin : cutB d2 i n.toNat = putB (putB d2 (2 * i + 1) ((d2.b (2 * i + 1)).take K1)) (2 * i) ((d2.b (2 * i)).take K2) := by
            unfold cutB
            rw [HBB.out, HLS.out, HK1.out, take_K (xs := d.b (2 * i)) (q := n.toNat) (K := K2) (by rw [HLS.out, HK2.out])]
          show DAt _ _ _ _ (cutB d2 i n.toNat)
          rw [hfin]
          exact HX2.out
        · have e7 := h3.cells.2.2.2.2.2.2.2
          rw [HKK.out] at e7
          have HO := Lib.hid (off_any h3 HSM.out d.k HK.out)
          clear h3
          go_wp2_with fail
          refine HO.out.mono ?_
          rintro e w4 hret
          have HRt := Lib.hid (RetD.from S3.out hret)
          clear hret
          obtain ⟨rfl, cs4, h4, s4⟩ := HRt.out
          go_wp2
          go_ret
          refine ⟨by rw [HA.out]; rfl, cs4, ?_, s4⟩
          rw [HA.out, hS.out, HG.out]
          exact h4
      · rw [ho] at HRD HA
        have HA := Lib.hid (HA.out.trans (if_pos (by simp [ans])))
        clear ho
        go_enter Try.func20, Try.ntmps20
        go_wp2_with fail
        refine HRD.out.mono ?_
        rintro e w' ⟨rfl, rfl⟩
        simp only [ans, if_true, if_false, Bool.false_eq_true]
        go_wp2_with fail
        go_quiet (fail)
        go_wp2
        go_ret
        exact ⟨by rw [HA.out]; rfl, cs, by rw [HA.out]; exact HDR.out _, SDR.out _⟩
end Go.Proofs.Ytbmdglbhmianjaa.diskw
