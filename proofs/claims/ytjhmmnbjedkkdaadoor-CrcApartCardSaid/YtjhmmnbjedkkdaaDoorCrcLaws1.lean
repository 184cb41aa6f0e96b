/- The walks of the laws CrcAdds, CrcApart, CrcParts. -/
import Derived.Test.YtjhmmnbjedkkdaaDoorCrcWalk2
set_option linter.unusedVariables false
set_option linter.unusedSimpArgs false
namespace Go.Proofs.YtjhmmnbjedkkdaaDoor.crcl
open Go.RowKit Go.Proofs.YtjhmmnbjedkkdaaDoorW.PrintWords Go.Proofs.YtjhmmnbjedkkdaaDoor.base Go.Proofs.YtjhmmnbjedkkdaaDoor.crcp Go.Proofs.YtjhmmnbjedkkdaaDoor.crcw

set_option maxHeartbeats 400000 in
theorem adds (s : Int) (A : Option Addr) (n c : Nat) (xs : List Int) (w : World) (hs : U32 s) (hr : RdB w A n xs) (_ : n ≤ c) (_ : n * 1 ≤ 140737488351232) (ht : Table w) :
    Calls Tryd.prog 3 #[.int .u32 s, .slice A n c] w fun e w' => e = .returned (.bool true) ∧ Below w.heap.size w w' := by
  have HR := Lib.hid hr
  have HT := Lib.hid ht
  have HS := Lib.hid hs
  clear hr ht hs
  have e1 : (add s xs == refadd s xs) = true := by rw [add_ref]; exact beq_self_eq_true _
  have e2 : (add 0 xs == refadd 0 xs) = true := by rw [add_ref]; exact beq_self_eq_true _
  go_enter Tryd.func3, Tryd.ntmps3
  go_wp2_with fail
  refine (wakes_any _ HT.out).mono ?_
  rintro e w1 ⟨rfl, hb⟩
  have HR1 := Lib.hid (HR.out.below hb)
  have HT1 := Lib.hid (HT.out.below hb)
  have HB := Lib.hid hb
  clear hb
  go_wp2_with (first | (go_at_call 11; refine (add_any _ _ _ _ _ _ HS.out HR1.out HT1.out).mono ?_; rintro e w' ⟨rfl, rfl⟩) | (go_at_call 12; refine (refadd_any _ _ _ _ _ _ HR1.out).mono ?_; rintro e w' ⟨rfl, rfl⟩) | (go_at_call 13; refine (sum_any _ _ _ _ _ HR1.out HT1.out).mono ?_; rintro e w' ⟨rfl, rfl⟩) | (go_at_call 14; refine (refsum_any _ _ _ _ _ HR1.out).mono ?_; rintro e w' ⟨rfl, rfl⟩))
  go_ret
  exact ⟨rfl, HB.out⟩

theorem apart_end (x y : Int) (xs : List Int) (hx : U32 x) (hy : U32 y) : ((add x xs == add y xs) == (x == y)) = true := by
  by_cases h : x = y
  · subst h; simp
  · have : add x xs ≠ add y xs := fun e => h (add_inj _ _ hx hy _ e)
    rw [beq_eq_false_iff_ne.2 this, beq_eq_false_iff_ne.2 h]; rfl
set_option maxHeartbeats 400000 in
theorem apart (x y : Int) (A : Option Addr) (n c : Nat) (xs : List Int) (w : World) (hx : U32 x) (hy : U32 y) (hr : RdB w A n xs) (_ : n ≤ c) (_ : n * 1 ≤ 140737488351232) (ht : Table w) :
    Calls Tryd.prog 6 #[.int .u32 x, .int .u32 y, .slice A n c] w fun e w' => e = .returned (.bool true) ∧ Below w.heap.size w w' := by
  have HR := Lib.hid hr
  have HT := Lib.hid ht
  have HX := Lib.hid hx
  have HY := Lib.hid hy
  have e1 := apart_end x y xs hx hy
  clear hr ht hx hy
  go_enter Tryd.func6, Tryd.ntmps6
  go_wp2_with fail
  refine (wakes_any _ HT.out).mono ?_
  rintro e w1 ⟨rfl, hb⟩
  have HR1 := Lib.hid (HR.out.below hb)
  have HT1 := Lib.hid (HT.out.below hb)
  have HB := Lib.hid hb
  clear hb
  go_wp2_with fail
  refine (add_any _ _ _ _ _ _ HX.out HR1.out HT1.out).mono ?_
  rintro e w' ⟨rfl, rfl⟩
  go_wp2_with fail
  refine (add_any _ _ _ _ _ _ HY.out HR1.out HT1.out).mono ?_
  rintro e w' ⟨rfl, rfl⟩
  go_wp2
  go_ret
  exact ⟨rfl, HB.out⟩

theorem parts_ref (s : Int) (xss : List (List Int)) : xss.foldl refadd s = parts s xss := by
  unfold parts
  rw [show refadd = add from funext fun s => funext fun xs => add_ref s xs]
set_option maxHeartbeats 400000 in
theorem partsLaw (A : Option Addr) (n c : Nat) (xss : List (List Int)) (w : World) (hr : RdBB w A n xss) (_ : n ≤ c) (ht : Table w) :
    Calls Tryd.prog 7 #[.slice A n c] w fun e w' => e = .returned (.bool true) ∧ Below w.heap.size w w' := by
  have HR := Lib.hid hr
  have HT := Lib.hid ht
  have hn := hr.2.1
  have e1 : (parts 0 xss == parts 0 xss) = true := beq_self_eq_true _
  clear hr ht
  go_enter Tryd.func7, Tryd.ntmps7
  go_wp2
  go_loop [3, 8] (fun r i => ∃ (k : Nat) (v : Int), k ≤ n ∧ i = .int .i64 k ∧ 0 ≤ v ∧ v ≤ 4294967295 ∧ r = .int .u32 v ∧ Aside0 (v = (xss.take k).foldl refadd 0)) (fun _ i => n - (intOf i).toNat)
  case atStart => exact ⟨0, 0, Nat.zero_le _, rfl, by omega, by omega, rfl, ⟨rfl⟩⟩
  case round =>
    obtain ⟨k, v, hk, rfl, hv0, hv1, rfl, HV⟩ := hrel
    by_cases hlt : k < n
    · obtain ⟨ad, rfl, a, m, c1, hcell, hmc, hrow⟩ := HR.out.at_ k (by omega)
      have HRow := Lib.hid hrow
      have HS := Aside0.mk (take_snoc2 xss k (by rw [HR.out.1]; exact hlt))
      clear hrow e1
      go_wp2_with (go_at_call 12; refine (refadd_any v _ _ _ _ _ HRow.out).mono ?_; rintro e w' ⟨rfl, rfl⟩)
      go_round
      case rel => exact ⟨k + 1, _, by omega, by go_num, (U32_refadd _ _).1, (U32_refadd _ _).2, rfl, ⟨by rw [HS.out, List.foldl_append, HV.out]; rfl⟩⟩
      case measure => simp [intOf]; omega
    · obtain rfl : k = n := by omega
      have HF : v = parts 0 xss := by rw [HV.out, List.take_of_length_le (by have := HR.out.1; omega), parts_ref]
      clear HV
      subst HF
      go_wp2_with fail
      refine (wakes_any _ HT.out).mono ?_
      rintro e w1 ⟨rfl, hb⟩
      have HR1 := Lib.hid (HR.out.below hb)
      have HT1 := Lib.hid (HT.out.below hb)
      have HB := Lib.hid hb
      clear hb
      go_wp2_with (go_at_call 15; refine (parts_any _ _ _ _ _ HR1.out HT1.out).mono ?_; rintro e w' ⟨rfl, rfl⟩)
      go_ret
      exact ⟨rfl, HB.out⟩
end Go.Proofs.YtjhmmnbjedkkdaaDoor.crcl
