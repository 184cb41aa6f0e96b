/- The walks of the laws PackTakes, PackRises, PackPuts, PackBack. -/
import Derived.Test.YtlbhmbbmpmhcjaaPackWalk3
import Derived.Test.YtlbhmbbmpmhcjaaPackPure2
import Derived.StillTailTactics
set_option linter.unusedVariables false
set_option linter.unusedSimpArgs false
namespace Go.Proofs.Ytlbhmbbmpmhcjaa.packl
open Go.RowKit Go.Proofs.YtlbhmbbmpmhcjaaW.PrintWords Go.Proofs.Ytlbhmbbmpmhcjaa.base Go.Proofs.Ytlbhmbbmpmhcjaa.mem Go.Proofs.Ytlbhmbbmpmhcjaa.packp Go.Proofs.Ytlbhmbbmpmhcjaa.packw Go.Proofs.Ytlbhmbbmpmhcjaa.samew

theorem takesLaw (A : Option Addr) (n c : Nat) (xs : List Int) (w : World) (hr : RdB w A n xs) (_ : n ≤ c) (_ : n * 1 ≤ 140737488351232) :
    Calls Try.prog 3 #[.slice A n c] w fun e w' => e = .returned (.bool true) ∧ Below w.heap.size w w' := by
  have HR := Lib.hid hr
  clear hr
  go_enter Try.func3, Try.ntmps3
  go_wp2_with fail
  refine (wakes_any _).mono ?_
  rintro e w1 ⟨rfl, hb⟩
  have HR1 := Lib.hid (HR.out.below hb)
  have HB := Lib.hid hb
  clear hb
  go_wp2_with (first | (go_at_call 12; refine (take_any _ _ _ _ _ HR1.out).mono ?_; rintro e w' ⟨rfl, rfl⟩) | (go_at_call 13; refine (reftake_any _ _ _ _ _ HR1.out).mono ?_; rintro e w' ⟨rfl, rfl⟩))
  go_ret
  exact ⟨by simp, HB.out⟩

set_option maxHeartbeats 1000000 in
set_option maxRecDepth 100000 in
theorem risesLaw (x y : Int) (w : World) (hx : -9223372036854775808 ≤ x ∧ x ≤ 9223372036854775807) (hy : -9223372036854775808 ≤ y ∧ y ≤ 9223372036854775807) :
    Calls Try.prog 4 #[.int .i64 x, .int .i64 y] w fun e w' => e = .returned (.bool true) ∧ Below w.heap.size w w' := by
  have HX : Hid (∀ z ∈ [x], -9223372036854775808 ≤ z ∧ z ≤ 9223372036854775807) := Lib.hid fun z hz => by simp at hz; subst hz; exact hx
  have HY : Hid (∀ z ∈ [y], -9223372036854775808 ≤ z ∧ z ≤ 9223372036854775807) := Lib.hid fun z hz => by simp at hz; subst hz; exact hy
  go_enter Try.func4, Try.ntmps4
  go_wp2_with fail
  refine (wakes_any _).mono ?_
  rintro e w1 ⟨rfl, hb⟩
  have HB1 := Lib.hid hb
  clear hb
  have HI1 := Lib.hid (litI w1 _ rfl (0, 0) [x] (Nat.le_of_ble_eq_true rfl))
  go_wp2_with fail
  refine (put_any none 0 0 [] _ 1 1 [x] _ (nilB _) HI1.out HX.out (by omega)).mono ?_
  rintro e w2 ⟨A1, n1, c1, rfl, ho, hb⟩
  rw [List.nil_append, encAll_one] at ho
  have hl1 := ho.len
  have HO1 := Lib.hid ho
  have HB2 := Lib.hid ((HB1.out.alloc HB1.out.size (.cells (nums .i64 [x]).toArray 3)).trans (hb.mono (by have := HB1.out.size; simp; omega)))
  clear ho hb
  have HI2 := Lib.hid (litI w2 _ rfl (0, 0) [y] (Nat.le_of_ble_eq_true rfl))
  have HL1 := Lib.hid hl1
  clear hl1
  go_wp2_with fail
  refine (put_any none 0 0 [] _ 1 1 [y] _ (nilB _) HI2.out HY.out (by omega)).mono ?_
  rintro e w3 ⟨A2, n2, c2, rfl, ho, hb⟩
  rw [List.nil_append, encAll_one] at ho
  have hl2 := ho.len
  have HO2 := Lib.hid ho
  have HO3 := Lib.hid ((HO1.out.alloc (.cells (nums .i64 [y]).toArray 3)).below hb)
  have HB3 := Lib.hid ((HB2.out.alloc HB2.out.size (.cells (nums .i64 [y]).toArray 3)).trans (hb.mono (by have := HB2.out.size; simp; omega)))
  have HL2 := Lib.hid hl2
  clear ho hb hl2
  have b1 := encI_len x hx.2
  have b2 := encI_len y hy.2
  rw [HL1.out] at b1
  rw [HL2.out] at b2
  obtain ⟨b10, b11⟩ := b1
  obtain ⟨b20, b21⟩ := b2
  have c1' := HO3.out.cap
  have c2' := HO2.out.cap
  have z1 : ((n1 : Int) == 0) = false := beq_eq_false_iff_ne.2 (by omega)
  have z2 : ((n2 : Int) == 0) = false := beq_eq_false_iff_ne.2 (by omega)
  have z3 : decide ((9 : Int) < (n1 : Int)) = false := decide_eq_false (by omega)
  have z4 : decide ((9 : Int) < (n2 : Int)) = false := decide_eq_false (by omega)
  by_cases hx0 : x < 0
  · go_wp2
    go_ret
    exact ⟨rfl, HB3.out⟩
  by_cases hy0 : y < 0
  · go_wp2
    go_ret
    exact ⟨rfl, HB3.out⟩
  have hfin := rises x y (min n1 n2) (by omega) hx.2 (by omega) hy.2 (by rw [HL1.out, HL2.out])
  have HF := Lib.hid hfin
  clear hfin
  have hm1 : x < y → n1 ≤ n2 := fun h => by
    have := encI_mono x y (by omega)
    rwa [HL1.out, HL2.out] at this
  have hm2 : y < x → n2 ≤ n1 := fun h => by
    have := encI_mono y x (by omega)
    rwa [HL1.out, HL2.out] at this
  have RA : Hid (∀ q, RdB (w3.drewN q) A1 (min n1 n2) ((encI x).take (min n1 n2))) := Lib.hid fun q => (HO3.out.rd.take _ (Nat.min_le_left _ _)).drawn q
  have RB : Hid (∀ q, RdB (w3.drewN q) A2 (min n1 n2) ((encI y).take (min n1 n2))) := Lib.hid fun q => (HO2.out.rd.take _ (Nat.min_le_right _ _)).drawn q
  clear HX HY HI1 HI2 hx hy
  by_cases hle : n1 ≤ n2
  · rw [Nat.min_eq_left hle] at RA RB HF
    rcases Int.lt_trichotomy x y with h | h | h
    · clear hm1 hm2
      go_wp2_with fail
      go_quiet ((go_at_call 15; exact Calls.quiet_of ((same_any _ _ _ _ _ _ _ _ _ (RA.out _) (RB.out _)).mono fun _ _ h => ⟨h.1, h.2.out⟩)))
      go_wp2
      go_ret
      exact ⟨by first | exact congrArg (fun b => Ending.returned (.bool b)) HF.out | exact congrArg (fun b => Ending.returned (.bool b)) (eqL_self _), pw_below_drewN HB3.out _⟩
    · subst h
      clear hm1 hm2
      go_wp2_with fail
      go_quiet ((go_at_call 15; exact Calls.quiet_of ((same_any _ _ _ _ _ _ _ _ _ (RA.out _) (RB.out _)).mono fun _ _ h => ⟨h.1, h.2.out⟩)))
      go_wp2
      go_ret
      exact ⟨by first | exact congrArg (fun b => Ending.returned (.bool b)) HF.out | exact congrArg (fun b => Ending.returned (.bool b)) (eqL_self _), pw_below_drewN HB3.out _⟩
    · have hge := hm2 h
      clear hm1 hm2
      go_wp2_with fail
      go_quiet ((go_at_call 15; exact Calls.quiet_of ((same_any _ _ _ _ _ _ _ _ _ (RA.out _) (RB.out _)).mono fun _ _ h => ⟨h.1, h.2.out⟩)))
      go_wp2
      go_ret
      exact ⟨by first | exact congrArg (fun b => Ending.returned (.bool b)) HF.out | exact congrArg (fun b => Ending.returned (.bool b)) (eqL_self _), pw_below_drewN HB3.out _⟩
  · rw [Nat.min_eq_right (by omega)] at RA RB HF
    have hxy : y < x := by
      rcases Int.lt_trichotomy x y with h | h | h
      · exact absurd (hm1 h) hle
      · subst h; have := HL1.out.symm.trans HL2.out; omega
      · exact h
    clear hm1 hm2
    go_wp2_with fail
    go_quiet ((go_at_call 15; exact Calls.quiet_of ((same_any _ _ _ _ _ _ _ _ _ (RA.out _) (RB.out _)).mono fun _ _ h => ⟨h.1, h.2.out⟩)))
    go_wp2
    go_ret
    exact ⟨by first | exact congrArg (fun b => Ending.returned (.bool b)) HF.out | exact congrArg (fun b => Ending.returned (.bool b)) (eqL_self _), pw_below_drewN HB3.out _⟩
end Go.Proofs.Ytlbhmbbmpmhcjaa.packl
