/- The walk of the law WireUnlike. -/
import Derived.Test.YtjhoidookoageaaWireLaws1
import Derived.Test.YtjhoidookoageaaWirePure2
set_option linter.unusedVariables false
set_option linter.unusedSimpArgs false
namespace Go.Proofs.Ytjhoidookoageaa.wirel
open Go.RowKit Go.Proofs.YtjhoidookoageaaW.PrintWords Go.Proofs.Ytjhoidookoageaa.base Go.Proofs.Ytjhoidookoageaa.mem Go.Proofs.Ytjhoidookoageaa.packp Go.Proofs.Ytjhoidookoageaa.packw Go.Proofs.Ytjhoidookoageaa.samew Go.Proofs.Ytjhoidookoageaa.wirep Go.Proofs.Ytjhoidookoageaa.wirew

theorem Box.new' (w : World) (s : Nat) (hs : w.heap.size = s) (k o d u v : Int) : Box (w.alloc (.cells #[.int .i64 k, .int .i64 o, .int .i64 d, .int .i64 u, .int .i64 v] 24)) s ⟨k, o, d, u, v⟩ := by subst hs; exact Box.new w k o d u v
set_option maxHeartbeats 4000000 in
set_option maxRecDepth 100000 in
theorem unlikeLaw (a b : M) (w : World) (ha : a.I) (hb : b.I) :
    Calls Try.prog 5 #[a.agg, b.agg] w fun e w' => e = .returned (.bool true) ∧ Below w.heap.size w w' := by
  have VA := Lib.hid (valid_any a)
  have VB := Lib.hid (valid_any b)
  have PA := Lib.hid (fun W => wput_any none 0 0 [] a W (nilB _) ha (by decide))
  have PB := Lib.hid (fun W => wput_any none 0 0 [] b W (nilB _) hb (by decide))
  have FA : Hid (a.valid = false → a.enc = []) := Lib.hid M.enc_none
  have FB : Hid (b.valid = false → b.enc = []) := Lib.hid M.enc_none
  have FL : Hid (a.valid = true → b.valid = true → (4 ≤ a.enc.length ∧ 4 ≤ b.enc.length) ∧ ∀ n, n = min a.enc.length b.enc.length → a ≠ b → eqL (a.enc.take n) (b.enc.take n) = false) := Lib.hid fun h1 h2 => ⟨⟨(M.enc_len h1).1, (M.enc_len h2).1⟩, fun n hn h => M.unlike h1 h2 n hn h⟩
  obtain ⟨a0, a1, a2, a3, a4⟩ := a
  obtain ⟨b0, b1, b2, b3, b4⟩ := b
  show Calls Try.prog 5 #[.agg #[.int .i64 a0, .int .i64 a1, .int .i64 a2, .int .i64 a3, .int .i64 a4], .agg #[.int .i64 b0, .int .i64 b1, .int .i64 b2, .int .i64 b3, .int .i64 b4]] w _
  have PA : Hid (∀ W, Calls Try.prog 13 #[.slice none 0 0, .agg #[.int .i64 a0, .int .i64 a1, .int .i64 a2, .int .i64 a3, .int .i64 a4]] W (RetB W ([] ++ M.enc ⟨a0, a1, a2, a3, a4⟩))) := PA
  have PB : Hid (∀ W, Calls Try.prog 13 #[.slice none 0 0, .agg #[.int .i64 b0, .int .i64 b1, .int .i64 b2, .int .i64 b3, .int .i64 b4]] W (RetB W ([] ++ M.enc ⟨b0, b1, b2, b3, b4⟩))) := PB
  have XA1 := Lib.hid ((Box.new w a0 a1 a2 a3 a4).below (below_alloc (Below.refl _ _) (.cells #[.int .i64 b0, .int .i64 b1, .int .i64 b2, .int .i64 b3, .int .i64 b4] 24)))
  have XB1 := Lib.hid (Box.new' (w.alloc (.cells #[.int .i64 a0, .int .i64 a1, .int .i64 a2, .int .i64 a3, .int .i64 a4] 24)) (w.heap.size + 1) (by simp) b0 b1 b2 b3 b4)
  have HB1 := Lib.hid ((below_alloc (Below.refl w.heap.size w) (.cells #[.int .i64 a0, .int .i64 a1, .int .i64 a2, .int .i64 a3, .int .i64 a4] 24)).alloc (by simp) (.cells #[.int .i64 b0, .int .i64 b1, .int .i64 b2, .int .i64 b3, .int .i64 b4] 24))
  have hs1 := HB1.out.size
  go_enter Try.func5, Try.ntmps5
  go_wp2_with fail
  refine (wakes_any _).mono ?_
  rintro e w2 ⟨rfl, hb⟩
  have HB2 := Lib.hid (HB1.out.trans (hb.mono hs1))
  have hs2 := HB2.out.size
  have XA2 := Lib.hid (XA1.out.below hb)
  have XB2 := Lib.hid (XB1.out.below hb)
  obtain ⟨e0, e1, e2, e3, e4⟩ := XA2.out
  obtain ⟨f0, f1, f2, f3, f4⟩ := XB2.out
  dsimp only at e0 e1 e2 e3 e4 f0 f1 f2 f3 f4
  clear hb
  go_wp2_with fail
  refine (VA.out _).mono ?_
  rintro e w3 ⟨rfl, hb⟩
  have HB3 := Lib.hid (HB2.out.trans (hb.mono hs2))
  have hs3 := HB3.out.size
  have XA3 := Lib.hid (XA2.out.below hb)
  have XB3 := Lib.hid (XB2.out.below hb)
  obtain ⟨e0, e1, e2, e3, e4⟩ := XA3.out
  obtain ⟨f0, f1, f2, f3, f4⟩ := XB3.out
  dsimp only at e0 e1 e2 e3 e4 f0 f1 f2 f3 f4
  clear hb
  cases va : M.valid ⟨a0, a1, a2, a3, a4⟩
  · have EA := FA.out va
    clear va
    rw [EA] at PA
    go_wp2_with fail
    refine (PA.out _).mono ?_
    rintro e w4 ⟨A4, n4, c4, rfl, ho, hb⟩
    have HB4 := Lib.hid (HB3.out.trans (hb.mono hs3))
    have hs4 := HB4.out.size
    have XA4 := Lib.hid (XA3.out.below hb)
    have XB4 := Lib.hid (XB3.out.below hb)
    obtain ⟨e0, e1, e2, e3, e4⟩ := XA4.out
    obtain ⟨f0, f1, f2, f3, f4⟩ := XB4.out
    dsimp only at e0 e1 e2 e3 e4 f0 f1 f2 f3 f4
    clear hb
    have hl4 : 0 = n4 := ho.len
    subst hl4
    clear ho
    go_wp2
    go_ret
    exact ⟨rfl, HB4.out⟩
  go_wp2_with fail
  refine (VB.out _).mono ?_
  rintro e w4 ⟨rfl, hb⟩
  have HB4 := Lib.hid (HB3.out.trans (hb.mono hs3))
  have hs4 := HB4.out.size
  have XA4 := Lib.hid (XA3.out.below hb)
  have XB4 := Lib.hid (XB3.out.below hb)
  obtain ⟨e0, e1, e2, e3, e4⟩ := XA4.out
  obtain ⟨f0, f1, f2, f3, f4⟩ := XB4.out
  dsimp only at e0 e1 e2 e3 e4 f0 f1 f2 f3 f4
  clear hb
  cases vb : M.valid ⟨b0, b1, b2, b3, b4⟩
  · have EB := FB.out vb
    clear vb va
    rw [EB] at PB
    go_wp2_with fail
    refine (PA.out _).mono ?_
    rintro e w5 ⟨A5, n5, c5, rfl, ho, hb⟩
    have HB5 := Lib.hid (HB4.out.trans (hb.mono hs4))
    have hs5 := HB5.out.size
    have XA5 := Lib.hid (XA4.out.below hb)
    have XB5 := Lib.hid (XB4.out.below hb)
    obtain ⟨e0, e1, e2, e3, e4⟩ := XA5.out
    obtain ⟨f0, f1, f2, f3, f4⟩ := XB5.out
    dsimp only at e0 e1 e2 e3 e4 f0 f1 f2 f3 f4
    clear hb
    clear ho
    by_cases hz : n5 = 0
    · subst hz
      go_wp2
      go_ret
      exact ⟨rfl, HB5.out⟩
    · have hzb : ((n5 : Int) == 0) = false := beq_eq_false_iff_ne.2 (by omega)
      go_wp2_with fail
      refine (PB.out _).mono ?_
      rintro e w6 ⟨A6, n6, c6, rfl, ho, hb⟩
      have HB6 := Lib.hid (HB5.out.trans (hb.mono hs5))
      have hs6 := HB6.out.size
      have XA6 := Lib.hid (XA5.out.below hb)
      have XB6 := Lib.hid (XB5.out.below hb)
      obtain ⟨e0, e1, e2, e3, e4⟩ := XA6.out
      obtain ⟨f0, f1, f2, f3, f4⟩ := XB6.out
      dsimp only at e0 e1 e2 e3 e4 f0 f1 f2 f3 f4
      clear hb
      have hl6 : 0 = n6 := ho.len
      subst hl6
      clear ho
      go_wp2
      go_ret
      exact ⟨rfl, HB6.out⟩
  · obtain ⟨⟨la, lb⟩, FU⟩ := FL.out va vb
    have HFU := Lib.hid FU
    clear FU va vb FA FB FL
    go_wp2_with fail
    have HBD := Lib.hid HB4.out.drew
    have XAD := Lib.hid (XA4.out.below (Below.refl _ _).drew)
    have XBD := Lib.hid (XB4.out.below (Below.refl _ _).drew)
    have hsD := HBD.out.size
    have hbox : w4.cell? ⟨w.heap.size, 0, none⟩ = some (.int .i64 a0) ∧ w4.cell? ⟨w.heap.size, 1, none⟩ = some (.int .i64 a1) ∧ w4.cell? ⟨w.heap.size, 2, none⟩ = some (.int .i64 a2) ∧ w4.cell? ⟨w.heap.size, 3, none⟩ = some (.int .i64 a3) ∧ w4.cell? ⟨w.heap.size, 4, none⟩ = some (.int .i64 a4) ∧ w4.cell? ⟨w.heap.size + 1, 0, none⟩ = some (.int .i64 b0) ∧ w4.cell? ⟨w.heap.size + 1, 1, none⟩ = some (.int .i64 b1) ∧ w4.cell? ⟨w.heap.size + 1, 2, none⟩ = some (.int .i64 b2) ∧ w4.cell? ⟨w.heap.size + 1, 3, none⟩ = some (.int .i64 b3) ∧ w4.cell? ⟨w.heap.size + 1, 4, none⟩ = some (.int .i64 b4) := ⟨XA4.out.1, XA4.out.2.1, XA4.out.2.2.1, XA4.out.2.2.2.1, XA4.out.2.2.2.2, XB4.out.1, XB4.out.2.1, XB4.out.2.2.1, XB4.out.2.2.2.1, XB4.out.2.2.2.2⟩
    have HBox := Lib.hid hbox
    clear hbox
    go_region_held3 (fun W => W.cell? ⟨w.heap.size, 0, none⟩ = some (.int .i64 a0) ∧ W.cell? ⟨w.heap.size, 1, none⟩ = some (.int .i64 a1) ∧ W.cell? ⟨w.heap.size, 2, none⟩ = some (.int .i64 a2) ∧ W.cell? ⟨w.heap.size, 3, none⟩ = some (.int .i64 a3) ∧ W.cell? ⟨w.heap.size, 4, none⟩ = some (.int .i64 a4) ∧ W.cell? ⟨w.heap.size + 1, 0, none⟩ = some (.int .i64 b0) ∧ W.cell? ⟨w.heap.size + 1, 1, none⟩ = some (.int .i64 b1) ∧ W.cell? ⟨w.heap.size + 1, 2, none⟩ = some (.int .i64 b2) ∧ W.cell? ⟨w.heap.size + 1, 3, none⟩ = some (.int .i64 b3) ∧ W.cell? ⟨w.heap.size + 1, 4, none⟩ = some (.int .i64 b4)) (first | assumption | exact HBox.out | exact ⟨by assumption, by assumption, by assumption, by assumption, by assumption, by assumption, by assumption, by assumption, by assumption, by assumption⟩) (first | (go_at_call 13; (with_reducible refine (PA.out _).mono ?_); rintro e w5 ⟨A5, n5, c5, rfl, ho, hb⟩; have HO5 := Lib.hid ho; have HB5 := Lib.hid (HBD.out.trans (hb.mono hsD)); have hs5 := HB5.out.size; have XA5 := Lib.hid (XAD.out.below hb); have XB5 := Lib.hid (XBD.out.below hb); obtain ⟨e0, e1, e2, e3, e4⟩ := XA5.out; obtain ⟨f0, f1, f2, f3, f4⟩ := XB5.out; dsimp only at e0 e1 e2 e3 e4 f0 f1 f2 f3 f4; clear hb; clear ho) | (go_at_call 13; (with_reducible refine (PB.out _).mono ?_); rintro e w6 ⟨A6, n6, c6, rfl, ho, hb⟩; have HO6 := Lib.hid ho; have HP6 := Lib.hid (HO5.out.below hb); have HB6 := Lib.hid (HB5.out.trans (hb.mono hs5)); have hs6 := HB6.out.size; have XA6 := Lib.hid (XA5.out.below hb); have XB6 := Lib.hid (XB5.out.below hb); obtain ⟨e0, e1, e2, e3, e4⟩ := XA6.out; obtain ⟨f0, f1, f2, f3, f4⟩ := XB6.out; dsimp only at e0 e1 e2 e3 e4 f0 f1 f2 f3 f4; clear hb; clear ho))
    have hl5 := HO5.out.len
    have hl6 := HO6.out.len
    rw [List.nil_append] at hl5 hl6
    have cap5 := HP6.out.cap
    have cap6 := HO6.out.cap
    have RA : Hid (∀ q m, m ≤ n5 → RdB (w6.drewN q) A5 m ((M.enc ⟨a0, a1, a2, a3, a4⟩).take m)) := Lib.hid fun q m h => (HP6.out.rd.take _ h).drawn q
    have RB : Hid (∀ q m, m ≤ n6 → RdB (w6.drewN q) A6 m ((M.enc ⟨b0, b1, b2, b3, b4⟩).take m)) := Lib.hid fun q m h => (HO6.out.rd.take _ h).drawn q
    rw [hl5] at la
    rw [hl6] at lb
    rw [hl5, hl6] at HFU
    have HL5 := Lib.hid hl5
    have HL6 := Lib.hid hl6
    clear hl5 hl6 PA PB VA VB
    have g5 : decide ((0 : Int) < (n5 : Int)) = true := decide_eq_true (by omega)
    have g6 : decide ((0 : Int) < (n6 : Int)) = true := decide_eq_true (by omega)
    have g5' : decide (0 < n5) = true := decide_eq_true (by omega)
    have g6' : decide (0 < n6) = true := decide_eq_true (by omega)
    by_cases hab : (⟨a0, a1, a2, a3, a4⟩ : M) = ⟨b0, b1, b2, b3, b4⟩
    · injection hab with z0 z1 z2 z3 z4
      subst z0 z1 z2 z3 z4
      have hn : n5 = n6 := HL5.out.symm.trans HL6.out
      subst hn
      clear HFU
      go_wp2_with fail
      go_quiet ((go_at_call 12; exact Calls.quiet_of ((same_any _ _ _ _ _ _ _ _ _ (RA.out _ _ (Nat.le_refl _)) (RB.out _ _ (Nat.le_refl _))).mono fun _ _ h => ⟨h.1, h.2.out⟩)))
      go_wp2
      go_ret
      exact ⟨by first | exact congrArg (fun b => Ending.returned (.bool b)) (eqL_self _) | (rw [eqL_self]; rfl), pw_below_drewN HB6.out _⟩
    · skip
      by_cases z0 : a0 = b0
      · subst z0
        by_cases z1 : a1 = b1
        · subst z1
          by_cases z2 : a2 = b2
          · subst z2
            by_cases z3 : a3 = b3
            · subst z3
              by_cases z4 : a4 = b4
              · subst z4
                exact absurd rfl hab
              · have d4 : (a4 == b4) = false := beq_eq_false_iff_ne.2 z4
                by_cases hle : n5 ≤ n6
                · have hF := HFU.out n5 (by omega) hab
                  have HFF := Lib.hid hF
                  have cx : n5 ≤ c5 := by omega
                  have cy : n5 ≤ c6 := by omega
                  clear hF hab
                  go_wp2_with fail
                  go_quiet ((go_at_call 12; exact Calls.quiet_of ((same_any _ _ _ _ _ _ _ _ _ (RA.out _ n5 (by omega)) (RB.out _ n5 (by omega))).mono fun _ _ h => ⟨h.1, h.2.out⟩)))
                  go_wp2
                  go_ret
                  exact ⟨by first | exact congrArg (fun b => Ending.returned (.bool b)) (show (eqL _ _ == false) = true by rw [HFF.out]; rfl) | exact congrArg (fun b => Ending.returned (.bool b)) (show (!eqL _ _) = true by rw [HFF.out]; rfl), pw_below_drewN HB6.out _⟩
                · have hF := HFU.out n6 (by omega) hab
                  have HFF := Lib.hid hF
                  have cx : n6 ≤ c5 := by omega
                  have cy : n6 ≤ c6 := by omega
                  clear hF hab
                  go_wp2_with fail
                  go_quiet ((go_at_call 12; exact Calls.quiet_of ((same_any _ _ _ _ _ _ _ _ _ (RA.out _ n6 (by omega)) (RB.out _ n6 (by omega))).mono fun _ _ h => ⟨h.1, h.2.out⟩)))
                  go_wp2
                  go_ret
                  exact ⟨by first | exact congrArg (fun b => Ending.returned (.bool b)) (show (eqL _ _ == false) = true by rw [HFF.out]; rfl) | exact congrArg (fun b => Ending.returned (.bool b)) (show (!eqL _ _) = true by rw [HFF.out]; rfl), pw_below_drewN HB6.out _⟩
            · have d3 : (a3 == b3) = false := beq_eq_false_iff_ne.2 z3
              by_cases hle : n5 ≤ n6
              · have hF := HFU.out n5 (by omega) hab
                have HFF := Lib.hid hF
                have cx : n5 ≤ c5 := by omega
                have cy : n5 ≤ c6 := by omega
                clear hF hab
                go_wp2_with fail
                go_quiet ((go_at_call 12; exact Calls.quiet_of ((same_any _ _ _ _ _ _ _ _ _ (RA.out _ n5 (by omega)) (RB.out _ n5 (by omega))).mono fun _ _ h => ⟨h.1, h.2.out⟩)))
                go_wp2
                go_ret
                exact ⟨by first | exact congrArg (fun b => Ending.returned (.bool b)) (show (eqL _ _ == false) = true by rw [HFF.out]; rfl) | exact congrArg (fun b => Ending.returned (.bool b)) (show (!eqL _ _) = true by rw [HFF.out]; rfl), pw_below_drewN HB6.out _⟩
              · have hF := HFU.out n6 (by omega) hab
                have HFF := Lib.hid hF
                have cx : n6 ≤ c5 := by omega
                have cy : n6 ≤ c6 := by omega
                clear hF hab
                go_wp2_with fail
                go_quiet ((go_at_call 12; exact Calls.quiet_of ((same_any _ _ _ _ _ _ _ _ _ (RA.out _ n6 (by omega)) (RB.out _ n6 (by omega))).mono fun _ _ h => ⟨h.1, h.2.out⟩)))
                go_wp2
                go_ret
                exact ⟨by first | exact congrArg (fun b => Ending.returned (.bool b)) (show (eqL _ _ == false) = true by rw [HFF.out]; rfl) | exact congrArg (fun b => Ending.returned (.bool b)) (show (!eqL _ _) = true by rw [HFF.out]; rfl), pw_below_drewN HB6.out _⟩
          · have d2 : (a2 == b2) = false := beq_eq_false_iff_ne.2 z2
            by_cases hle : n5 ≤ n6
            · have hF := HFU.out n5 (by omega) hab
              have HFF := Lib.hid hF
              have cx : n5 ≤ c5 := by omega
              have cy : n5 ≤ c6 := by omega
              clear hF hab
              go_wp2_with fail
              go_quiet ((go_at_call 12; exact Calls.quiet_of ((same_any _ _ _ _ _ _ _ _ _ (RA.out _ n5 (by omega)) (RB.out _ n5 (by omega))).mono fun _ _ h => ⟨h.1, h.2.out⟩)))
              go_wp2
              go_ret
              exact ⟨by first | exact congrArg (fun b => Ending.returned (.bool b)) (show (eqL _ _ == false) = true by rw [HFF.out]; rfl) | exact congrArg (fun b => Ending.returned (.bool b)) (show (!eqL _ _) = true by rw [HFF.out]; rfl), pw_below_drewN HB6.out _⟩
            · have hF := HFU.out n6 (by omega) hab
              have HFF := Lib.hid hF
              have cx : n6 ≤ c5 := by omega
              have cy : n6 ≤ c6 := by omega
              clear hF hab
              go_wp2_with fail
              go_quiet ((go_at_call 12; exact Calls.quiet_of ((same_any _ _ _ _ _ _ _ _ _ (RA.out _ n6 (by omega)) (RB.out _ n6 (by omega))).mono fun _ _ h => ⟨h.1, h.2.out⟩)))
              go_wp2
              go_ret
              exact ⟨by first | exact congrArg (fun b => Ending.returned (.bool b)) (show (eqL _ _ == false) = true by rw [HFF.out]; rfl) | exact congrArg (fun b => Ending.returned (.bool b)) (show (!eqL _ _) = true by rw [HFF.out]; rfl), pw_below_drewN HB6.out _⟩
        · have d1 : (a1 == b1) = false := beq_eq_false_iff_ne.2 z1
          by_cases hle : n5 ≤ n6
          · have hF := HFU.out n5 (by omega) hab
            have HFF := Lib.hid hF
            have cx : n5 ≤ c5 := by omega
            have cy : n5 ≤ c6 := by omega
            clear hF hab
            go_wp2_with fail
            go_quiet ((go_at_call 12; exact Calls.quiet_of ((same_any _ _ _ _ _ _ _ _ _ (RA.out _ n5 (by omega)) (RB.out _ n5 (by omega))).mono fun _ _ h => ⟨h.1, h.2.out⟩)))
            go_wp2
            go_ret
            exact ⟨by first | exact congrArg (fun b => Ending.returned (.bool b)) (show (eqL _ _ == false) = true by rw [HFF.out]; rfl) | exact congrArg (fun b => Ending.returned (.bool b)) (show (!eqL _ _) = true by rw [HFF.out]; rfl), pw_below_drewN HB6.out _⟩
          · have hF := HFU.out n6 (by omega) hab
            have HFF := Lib.hid hF
            have cx : n6 ≤ c5 := by omega
            have cy : n6 ≤ c6 := by omega
            clear hF hab
            go_wp2_with fail
            go_quiet ((go_at_call 12; exact Calls.quiet_of ((same_any _ _ _ _ _ _ _ _ _ (RA.out _ n6 (by omega)) (RB.out _ n6 (by omega))).mono fun _ _ h => ⟨h.1, h.2.out⟩)))
            go_wp2
            go_ret
            exact ⟨by first | exact congrArg (fun b => Ending.returned (.bool b)) (show (eqL _ _ == false) = true by rw [HFF.out]; rfl) | exact congrArg (fun b => Ending.returned (.bool b)) (show (!eqL _ _) = true by rw [HFF.out]; rfl), pw_below_drewN HB6.out _⟩
      · have d0 : (a0 == b0) = false := beq_eq_false_iff_ne.2 z0
        by_cases hle : n5 ≤ n6
        · have hF := HFU.out n5 (by omega) hab
          have HFF := Lib.hid hF
          have cx : n5 ≤ c5 := by omega
          have cy : n5 ≤ c6 := by omega
          clear hF hab
          go_wp2_with fail
          go_quiet ((go_at_call 12; exact Calls.quiet_of ((same_any _ _ _ _ _ _ _ _ _ (RA.out _ n5 (by omega)) (RB.out _ n5 (by omega))).mono fun _ _ h => ⟨h.1, h.2.out⟩)))
          go_wp2
          go_ret
          exact ⟨by first | exact congrArg (fun b => Ending.returned (.bool b)) (show (eqL _ _ == false) = true by rw [HFF.out]; rfl) | exact congrArg (fun b => Ending.returned (.bool b)) (show (!eqL _ _) = true by rw [HFF.out]; rfl), pw_below_drewN HB6.out _⟩
        · have hF := HFU.out n6 (by omega) hab
          have HFF := Lib.hid hF
          have cx : n6 ≤ c5 := by omega
          have cy : n6 ≤ c6 := by omega
          clear hF hab
          go_wp2_with fail
          go_quiet ((go_at_call 12; exact Calls.quiet_of ((same_any _ _ _ _ _ _ _ _ _ (RA.out _ n6 (by omega)) (RB.out _ n6 (by omega))).mono fun _ _ h => ⟨h.1, h.2.out⟩)))
          go_wp2
          go_ret
          exact ⟨by first | exact congrArg (fun b => Ending.returned (.bool b)) (show (eqL _ _ == false) = true by rw [HFF.out]; rfl) | exact congrArg (fun b => Ending.returned (.bool b)) (show (!eqL _ _) = true by rw [HFF.out]; rfl), pw_below_drewN HB6.out _⟩
end Go.Proofs.Ytjhoidookoageaa.wirel
