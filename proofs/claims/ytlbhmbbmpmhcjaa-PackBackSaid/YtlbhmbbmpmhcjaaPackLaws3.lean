/- The walk of the law PackBack. -/
import Derived.Test.YtlbhmbbmpmhcjaaPackWalk3
import Derived.Test.YtlbhmbbmpmhcjaaPackPure2
import Derived.Deep.RegionHeld3
set_option linter.unusedVariables false
set_option linter.unusedSimpArgs false
namespace Go.Proofs.Ytlbhmbbmpmhcjaa.packl
open Go.RowKit Go.Proofs.YtlbhmbbmpmhcjaaW.PrintWords Go.Proofs.Ytlbhmbbmpmhcjaa.base Go.Proofs.Ytlbhmbbmpmhcjaa.mem Go.Proofs.Ytlbhmbbmpmhcjaa.packp Go.Proofs.Ytlbhmbbmpmhcjaa.packw Go.Proofs.Ytlbhmbbmpmhcjaa.samew

set_option maxHeartbeats 1000000 in
set_option maxRecDepth 100000 in
theorem backLaw (x : Int) (A : Option Addr) (n c : Nat) (xs : List Int) (w : World) (hx : -9223372036854775808 ≤ x ∧ x ≤ 9223372036854775807) (hr : RdB w A n xs) (hc : n ≤ c) (hn : n * 1 ≤ 140737488351232) :
    Calls Try.prog 6 #[.int .i64 x, .slice A n c] w fun e w' => e = .returned (.bool true) ∧ Below w.heap.size w w' := by
  have HR := Lib.hid hr
  have HX : Hid (∀ z ∈ [x], -9223372036854775808 ≤ z ∧ z ≤ 9223372036854775807) := Lib.hid fun z hz => by simp at hz; subst hz; exact hx
  obtain ⟨hx0, hx1⟩ := hx
  clear hr
  have hn' : n ≤ 140737488351232 := by omega
  clear hn
  go_enter Try.func6, Try.ntmps6
  go_wp2_with fail
  refine (wakes_any _).mono ?_
  rintro e w1 ⟨rfl, hb⟩
  have HB1 := Lib.hid hb
  clear hb
  have second : ∀ (W : World), Below w.heap.size w W → True := fun _ _ => trivial
  clear second
  by_cases h0 : 0 ≤ x
  · have HI1 := Lib.hid (litI w1 _ rfl (0, 0) [x] (Nat.le_of_ble_eq_true rfl))
    go_wp2_with fail
    refine (put_any none 0 0 [] _ 1 1 [x] _ (nilB _) HI1.out HX.out (by omega)).mono ?_
    rintro e w2 ⟨A1, n1, c1, rfl, ho, hb⟩
    rw [List.nil_append, encAll_one] at ho
    have HL1 := Lib.hid ho.len
    have b1 := encI_len x hx1
    rw [HL1.out] at b1
    obtain ⟨b10, b11⟩ := b1
    have hc1 := ho.cap
    have HO1 := Lib.hid ho
    have HB2 := Lib.hid ((HB1.out.alloc HB1.out.size (.cells (nums .i64 [x]).toArray 3)).trans (hb.mono (by have := HB1.out.size; simp; omega)))
    have HR2 := Lib.hid (HR.out.below HB2.out)
    have hs2 := HB2.out.size
    clear ho hb
    go_wp2_with (first | (at_builtin; refine appFull (w0 := w) (base := w.heap.size) rfl (.tmp 23) (.tmp 24) rfl rfl rfl HO1.out.rd HR2.out HB2.out hs2 ?lenA ?_; (case lenA => omega); intro A3 n3 c3 w3 ho hl hb; have HO3 := Lib.hid ho; have HB3 := Lib.hid hb; clear ho hb) | (go_at_call 12; (with_reducible refine (take_any _ _ _ _ _ HO3.out).mono ?_); rintro e w' ⟨rfl, rfl⟩; rw [put_take x xs h0 hx1, HL1.out]) | (go_at_call 17; refine (size_any _ _ ⟨hx0, hx1⟩).mono ?_; rintro e w4 ⟨rfl, hb⟩; rw [HL1.out]; have HB4 := Lib.hid (HB3.out.trans (hb.mono HB3.out.size)); have HR4 := Lib.hid (HR.out.below HB4.out); clear hb))
    have HRz := HR4
    have HBz := HB4
    clear HR4 HB4 HR2 HB2 HO1 HO3 HB3
    refine (take_any _ _ _ _ _ HRz.out).mono ?_
    rintro e w' ⟨rfl, rfl⟩
    by_cases hk : (dec 0 xs).2 = 0
    · rw [dec_zero 0 xs hk]
      go_wp2
      go_ret
      exact ⟨rfl, HBz.out⟩
    · obtain ⟨d0, d1, d2, d3⟩ := take_put xs HRz.out.2 hk
      rw [HRz.out.len] at d2
      have HD3 := Lib.hid d3
      generalize (dec 0 xs).1 = y at d0 d1 HD3
      generalize (dec 0 xs).2 = k at d2 HD3 hk
      have HY : Hid (∀ z ∈ [y], -9223372036854775808 ≤ z ∧ z ≤ 9223372036854775807) := Lib.hid fun z hz => by simp at hz; subst hz; omega
      have hk0 : ((k : Int) == 0) = false := beq_eq_false_iff_ne.2 (by omega)
      have hk1 : (0 : Int) < (k : Int) := by omega
      have hk2 : (k : Int) ≤ (n : Int) := by omega
      have hk3 : decide ((0 : Int) < (k : Int)) = true := decide_eq_true hk1
      have hk4 : decide (0 < k) = true := decide_eq_true (by omega)
      have hk5 : decide (k ≤ n) = true := decide_eq_true d2
      have hk6 : decide ((k : Int) ≤ (n : Int)) = true := decide_eq_true hk2
      have hk7 : decide (0 ≤ y) = true := decide_eq_true d0
      have hkc : k ≤ c := Nat.le_trans d2 hc
      clear d3 hk
      go_wp2_with fail
      go_region_held3 (fun _ => True) (trivial) (first | (go_at_call 14; refine (put_any none 0 0 [] _ 1 1 [y] _ (nilB _) (litI w4.drew _ rfl (0, 0) [y] (Nat.le_of_ble_eq_true rfl)) HY.out (by omega)).mono ?_; rintro e w5 ⟨A5, n5, c5, rfl, ho, hb⟩; rw [List.nil_append, encAll_one] at ho; have HO5 := Lib.hid ho.rd; have HB5 := Lib.hid (HBz.out.drew.alloc HBz.out.size (.cells (nums .i64 [y]).toArray 3) |>.trans (hb.mono (by have := HBz.out.size; simp; omega))); have HR5 := Lib.hid ((HR.out.below HB5.out).take k d2); clear ho hb) | (go_at_call 15; refine (same_any _ _ _ _ _ _ _ _ _ HO5.out HR5.out).mono ?_; rintro e w6 ⟨rfl, ⟨q, rfl⟩⟩; rw [← HD3.out, eqL_self]))
      go_wp2
      go_ret
      exact ⟨rfl, pw_below_drewN HB5.out _⟩
  · have HRz := Lib.hid (HR.out.below HB1.out)
    have HBz := HB1
    clear HB1
    go_wp2_with fail
    refine (take_any _ _ _ _ _ HRz.out).mono ?_
    rintro e w' ⟨rfl, rfl⟩
    by_cases hk : (dec 0 xs).2 = 0
    · rw [dec_zero 0 xs hk]
      go_wp2
      go_ret
      exact ⟨rfl, HBz.out⟩
    · obtain ⟨d0, d1, d2, d3⟩ := take_put xs HRz.out.2 hk
      rw [HRz.out.len] at d2
      have HD3 := Lib.hid d3
      generalize (dec 0 xs).1 = y at d0 d1 HD3
      generalize (dec 0 xs).2 = k at d2 HD3 hk
      have HY : Hid (∀ z ∈ [y], -9223372036854775808 ≤ z ∧ z ≤ 9223372036854775807) := Lib.hid fun z hz => by simp at hz; subst hz; omega
      have hk0 : ((k : Int) == 0) = false := beq_eq_false_iff_ne.2 (by omega)
      have hk1 : (0 : Int) < (k : Int) := by omega
      have hk2 : (k : Int) ≤ (n : Int) := by omega
      have hk3 : decide ((0 : Int) < (k : Int)) = true := decide_eq_true hk1
      have hk4 : decide (0 < k) = true := decide_eq_true (by omega)
      have hk5 : decide (k ≤ n) = true := decide_eq_true d2
      have hk6 : decide ((k : Int) ≤ (n : Int)) = true := decide_eq_true hk2
      have hk7 : decide (0 ≤ y) = true := decide_eq_true d0
      have hkc : k ≤ c := Nat.le_trans d2 hc
      clear d3 hk
      go_wp2_with fail
      go_region_held3 (fun _ => True) (trivial) (first | (go_at_call 14; refine (put_any none 0 0 [] _ 1 1 [y] _ (nilB _) (litI w1.drew _ rfl (0, 0) [y] (Nat.le_of_ble_eq_true rfl)) HY.out (by omega)).mono ?_; rintro e w5 ⟨A5, n5, c5, rfl, ho, hb⟩; rw [List.nil_append, encAll_one] at ho; have HO5 := Lib.hid ho.rd; have HB5 := Lib.hid (HBz.out.drew.alloc HBz.out.size (.cells (nums .i64 [y]).toArray 3) |>.trans (hb.mono (by have := HBz.out.size; simp; omega))); have HR5 := Lib.hid ((HR.out.below HB5.out).take k d2); clear ho hb) | (go_at_call 15; refine (same_any _ _ _ _ _ _ _ _ _ HO5.out HR5.out).mono ?_; rintro e w6 ⟨rfl, ⟨q, rfl⟩⟩; rw [← HD3.out, eqL_self]))
      go_wp2
      go_ret
      exact ⟨rfl, pw_below_drewN HB5.out _⟩
end Go.Proofs.Ytlbhmbbmpmhcjaa.packl
