/- What crc.Parts computes. -/
import Derived.Test.YtjebmlfcdnpepaaDoorCrcWalk
set_option linter.unusedVariables false
set_option linter.unusedSimpArgs false
namespace Go.Proofs.YtjebmlfcdnpepaaDoor.crcw
open Go.RowKit Go.Proofs.YtjebmlfcdnpepaaDoorW.PrintWords Go.Proofs.YtjebmlfcdnpepaaDoor.base Go.Proofs.YtjebmlfcdnpepaaDoor.crcp

def parts (s : Int) (xss : List (List Int)) : Int := xss.foldl add s
theorem U32_parts (s : Int) (hs : U32 s) (xss : List (List Int)) : U32 (parts s xss) := by
  unfold parts
  induction xss generalizing s with
  | nil => exact hs
  | cons x xss ih => exact ih _ (U32_add _ _)

set_option maxHeartbeats 400000 in
theorem parts_any (A : Option Addr) (n c : Nat) (xss : List (List Int)) (w : World) (hr : RdBB w A n xss) (ht : Table w) :
    Calls Tryd.prog 19 #[.slice A n c] w fun e w' => e = .returned (.int .u32 (parts 0 xss)) ∧ w = w' := by
  have HR := Lib.hid hr
  have HT := Lib.hid ht
  have hn := hr.2.1
  clear hr ht
  go_enter Tryd.func19, Tryd.ntmps19
  go_wp2
  go_loop [3, 8] (fun r i => ∃ (k : Nat) (v : Int), k ≤ n ∧ i = .int .i64 k ∧ 0 ≤ v ∧ v ≤ 4294967295 ∧ r = .int .u32 v ∧ Aside0 (v = parts 0 (xss.take k))) (fun _ i => n - (intOf i).toNat)
  case atStart => exact ⟨0, 0, Nat.zero_le _, rfl, by omega, by omega, rfl, ⟨rfl⟩⟩
  case round =>
    obtain ⟨k, v, hk, rfl, hv0, hv1, rfl, HV⟩ := hrel
    by_cases hlt : k < n
    · obtain ⟨ad, rfl, a, m, c1, hcell, hmc, hrow⟩ := HR.out.at_ k (by omega)
      have HRow := Lib.hid hrow
      have HS := Aside0.mk (take_snoc2 xss k (by rw [HR.out.1]; exact hlt))
      clear hrow
      go_wp2_with (go_at_call 26; refine (add_any v _ _ _ _ _ ⟨hv0, hv1⟩ HRow.out HT.out).mono ?_; rintro e w' ⟨rfl, rfl⟩)
      go_round
      case rel => exact ⟨k + 1, _, by omega, by go_num, (U32_add _ _).1, (U32_add _ _).2, rfl, ⟨by rw [HS.out]; unfold parts; rw [List.foldl_append, HV.out]; rfl⟩⟩
      case measure => simp [intOf]; omega
    · obtain rfl : k = n := by omega
      have HF : Aside0 (v = parts 0 xss) := ⟨by rw [HV.out, List.take_of_length_le (by have := HR.out.1; omega)]⟩
      go_wp2
      go_ret
      exact ⟨by rw [← HF.out]; rfl, rfl⟩
end Go.Proofs.YtjebmlfcdnpepaaDoor.crcw
