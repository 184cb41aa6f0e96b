/- What Fault and Take compute, the program's and the reference's. -/
import Derived.Test.YtobkcedmjeidfaaDoorWireWalk2
import Derived.Test.YtobkcedmjeidfaaDoorTakePure
set_option linter.unusedVariables false
set_option linter.unusedSimpArgs false
namespace Go.Proofs.YtobkcedmjeidfaaDoor.takew
open Go.RowKit Go.Proofs.YtobkcedmjeidfaaDoorW.PrintWords Go.Proofs.YtobkcedmjeidfaaDoor.base Go.Proofs.YtobkcedmjeidfaaDoor.mem Go.Proofs.YtobkcedmjeidfaaDoor.packp Go.Proofs.YtobkcedmjeidfaaDoor.packw Go.Proofs.YtobkcedmjeidfaaDoor.samew Go.Proofs.YtobkcedmjeidfaaDoor.wirep Go.Proofs.YtobkcedmjeidfaaDoor.wirew

theorem fault_any (A : Option Addr) (n c : Nat) (xs : List Int) (w : World) (hr : RdB w A n xs) :
    Calls Tryd.prog 32 #[.slice A n c] w fun e w' => e = .returned (.int .i64 (fault xs)) ∧ w = w' := by
  have HR := Lib.hid hr
  have hn := hr.max
  clear hr
  go_enter Tryd.func32, Tryd.ntmps32
  go_wp2
  go_loopw [4, 7] (fun _ i wr => ∃ k : Nat, k ≤ n ∧ i = .int .i64 k ∧ Aside0 (small (xs.take k) = false) ∧ wr = w) (fun _ i _ => n - (intOf i).toNat)
  case atStart => exact ⟨0, by omega, rfl, ⟨rfl⟩, rfl⟩
  case round =>
    obtain ⟨k, hk, rfl, HE, rfl⟩ := hrel
    by_cases hlt : k < n
    · obtain ⟨ad, rfl, hc⟩ := HR.out.at_ k hlt
      have hs := small_take (xs := xs) (k := k) (by rw [HR.out.len]; exact hlt) HE.out
      have ha := fun h => small_at (xs := xs) (k := k) (by rw [HR.out.len]; exact hlt) h
      generalize xs.getD k 0 = x at hc hs ha
      by_cases hx : x < 128
      · have HF := Lib.hid (fault_small (ha hx))
        have hb : decide (x < 128) = true := decide_eq_true hx
        clear hs ha
        go_wp2
        go_ret
        exact ⟨by rw [HF.out]; rfl, rfl⟩
      · have hb : decide (x < 128) = false := decide_eq_false hx
        rw [hb] at hs
        have HS := Aside0.mk hs
        clear hs ha
        go_wp2
        go_roundw
        case rel => exact ⟨k + 1, by omega, by go_num, HS, trivial⟩
        case measure => simp [intOf]; omega
    · have hall : small xs = false := by
        have := HE.out
        rwa [List.take_of_length_le (by rw [HR.out.len]; omega)] at this
      by_cases h8 : 8 < n
      · have HF := Lib.hid (fault_long (xs := xs) (by rw [HR.out.len]; exact h8))
        have hb : decide ((8 : Int) < (n : Int)) = true := decide_eq_true (by omega)
        clear hall
        go_wp2
        go_ret
        exact ⟨by rw [HF.out]; rfl, rfl⟩
      · have HF := Lib.hid (fault_short (xs := xs) (by rw [HR.out.len]; exact h8) hall)
        have hb : decide ((8 : Int) < (n : Int)) = false := decide_eq_false (by omega)
        clear hall
        go_wp2
        go_ret
        exact ⟨by rw [HF.out]; rfl, rfl⟩
theorem reffault_any (A : Option Addr) (n c : Nat) (xs : List Int) (w : World) (hr : RdB w A n xs) :
    Calls Tryd.prog 35 #[.slice A n c] w fun e w' => e = .returned (.int .i64 (fault xs)) ∧ w = w' := by
  have HR := Lib.hid hr
  have hn := hr.max
  clear hr
  by_cases h8 : 8 < n
  · have HF := Lib.hid (fault_long (xs := xs) (by rw [HR.out.len]; exact h8))
    have hb : decide ((8 : Int) < (n : Int)) = true := decide_eq_true (by omega)
    go_enter Tryd.func35, Tryd.ntmps35
    go_wp2
    go_ret
    exact ⟨by rw [HF.out]; rfl, rfl⟩
  have hb8 : decide ((8 : Int) < (n : Int)) = false := decide_eq_false (by omega)
  go_enter Tryd.func35, Tryd.ntmps35
  go_wp2
  go_loopw [3] (fun i wr => ∃ k : Nat, k ≤ n ∧ i = .int .i64 k ∧ Aside0 (small (xs.take k) = false) ∧ wr = w) (fun i _ => n - (intOf i).toNat)
  case atStart => exact ⟨0, by omega, rfl, ⟨rfl⟩, rfl⟩
  case round =>
    obtain ⟨k, hk, rfl, HE, rfl⟩ := hrel
    by_cases hlt : k < n
    · obtain ⟨ad, rfl, hc⟩ := HR.out.at_ k hlt
      have hs := small_take (xs := xs) (k := k) (by rw [HR.out.len]; exact hlt) HE.out
      have ha := fun h => small_at (xs := xs) (k := k) (by rw [HR.out.len]; exact hlt) h
      generalize xs.getD k 0 = x at hc hs ha
      by_cases hx : x < 128
      · have HF := Lib.hid (fault_small (ha hx))
        have hb : decide (x < 128) = true := decide_eq_true hx
        clear hs ha
        go_wp2
        go_ret
        exact ⟨by rw [HF.out]; rfl, rfl⟩
      · have hb : decide (x < 128) = false := decide_eq_false hx
        rw [hb] at hs
        have HS := Aside0.mk hs
        clear hs ha
        go_wp2
        go_roundw
        case rel => exact ⟨k + 1, by omega, by go_num, HS, trivial⟩
        case measure => simp [intOf]; omega
    · have hall : small xs = false := by
        have := HE.out
        rwa [List.take_of_length_le (by rw [HR.out.len]; omega)] at this
      have HF := Lib.hid (fault_short (xs := xs) (by rw [HR.out.len]; exact h8) hall)
      clear hall
      go_wp2
      go_ret
      exact ⟨by rw [HF.out]; rfl, rfl⟩
end Go.Proofs.YtobkcedmjeidfaaDoor.takew
