/- What crc.Add, crc.Sum and the reference's Add and Sum compute: each is walked once. -/
import Derived.Test.YtjebmlfcdnpepaaDoorBase
import Derived.Test.YtjebmlfcdnpepaaDoorCrcPure
set_option linter.unusedVariables false
set_option linter.unusedSimpArgs false
namespace Go.Proofs.YtjebmlfcdnpepaaDoor.crcw
open Go.RowKit Go.Proofs.YtjebmlfcdnpepaaDoorW.PrintWords Go.Proofs.YtjebmlfcdnpepaaDoor.base Go.Proofs.YtjebmlfcdnpepaaDoor.crcp

def Table (w : World) : Prop := ∀ i : Nat, i < 16 → w.cell? ⟨0, i, none⟩ = some (.int .u32 (tab.getD i 0))
theorem Table.below {w w1 : World} (h : Table w) (hb : Below w.heap.size w w1) : Table w1 := fun i hi => pw_cell_below hb (h i hi)
theorem nib_step {j : Nat} {q v b : Int} (hj : j < 2) (h : q = if j = 0 then xr v b else if j = 1 then nib (xr v b) else byt v b) : nib q = if j + 1 = 0 then xr v b else if j + 1 = 1 then nib (xr v b) else byt v b := by
  subst h
  match j, hj with
  | 0, _ => rfl
  | 1, _ => rfl

set_option maxHeartbeats 400000 in
theorem add_any (s : Int) (A : Option Addr) (n c : Nat) (xs : List Int) (w : World) (hs : U32 s) (hr : RdB w A n xs) (ht : Table w) :
    Calls Tryd.prog 26 #[.int .u32 s, .slice A n c] w fun e w' => e = .returned (.int .u32 (add s xs)) ∧ w = w' := by
  have HR := Lib.hid hr
  have HT := Lib.hid ht
  have hn := hr.max
  clear hr ht hs
  go_enter Tryd.func26, Tryd.ntmps26
  go_wp2
  go_loop [5, 12] (fun r i => ∃ (k : Nat) (v : Int), k ≤ n ∧ i = .int .i64 k ∧ 0 ≤ v ∧ v ≤ 4294967295 ∧ r = .int .u32 v ∧ Aside0 (v = (xs.take k).foldl byt (flip s))) (fun _ i => n - (intOf i).toNat)
  case atStart => exact ⟨0, _, Nat.zero_le _, rfl, (U32_bits _ _ _).1, (U32_bits _ _ _).2, rfl, ⟨rfl⟩⟩
  case round =>
    obtain ⟨k, v, hk, rfl, hv0, hv1, rfl, HV⟩ := hrel
    by_cases hlt : k < n
    · obtain ⟨ad, rfl, hcell⟩ := HR.out.at_ k (by omega)
      have hb0 := (HR.out.2 k).1
      have hb1 := (HR.out.2 k).2
      have hstep := take_snoc xs k (by rw [HR.out.len]; exact hlt)
      generalize xs.getD k 0 = b at hcell hb0 hb1 hstep
      have HS := Aside0.mk hstep
      clear hstep
      have hq0 := (U32_bits .xor v b).1
      have hq1 := (U32_bits .xor v b).2
      go_wp2
      go_loop [5, 20] (fun r i => ∃ (j : Nat) (q : Int), j ≤ 2 ∧ i = .int .i64 j ∧ 0 ≤ q ∧ q ≤ 4294967295 ∧ r = .int .u32 q ∧ Aside0 (q = if j = 0 then xr v b else if j = 1 then nib (xr v b) else byt v b)) (fun _ i => 2 - (intOf i).toNat)
      case atStart => exact ⟨0, _, by omega, rfl, hq0, hq1, rfl, ⟨rfl⟩⟩
      case round =>
        obtain ⟨j, q, hj, rfl, q0, q1, rfl, HQ⟩ := hrel
        by_cases hj2 : j < 2
        · have hl := lo4_r q ⟨q0, q1⟩
          have hl0 : 0 ≤ lo4 q := by omega
          have hl1 : lo4 q ≤ 15 := by omega
          have ht := HT.out (lo4 q).toNat (by omega)
          have HN : Aside0 (nib q = xr (q / 16) (tab.getD (lo4 q).toNat 0)) := ⟨rfl⟩
          generalize tab.getD (lo4 q).toNat 0 = tv at ht HN
          clear hl
          unfold lo4 at ht hl0 hl1
          go_wp2
          go_round
          case rel => exact ⟨j + 1, nib q, by omega, by go_num, (U32_nib q).1, (U32_nib q).2, by rw [HN.out]; rfl, ⟨nib_step hj2 HQ.out⟩⟩
          case measure => simp [intOf]; omega
        · obtain rfl : j = 2 := by omega
          go_wp2
          go_round
          case rel => exact ⟨k + 1, q, by omega, by go_num, q0, q1, rfl, ⟨by rw [HS.out, List.foldl_append, ← HV.out, HQ.out]; rfl⟩⟩
          case measure => simp [intOf]; omega
    · obtain rfl : k = n := by omega
      have HF : Aside0 (v = xs.foldl byt (flip s)) := ⟨by rw [HV.out, List.take_of_length_le (by have := HR.out.len; omega)]⟩
      go_wp2
      go_ret
      exact ⟨by unfold add; rw [← HF.out]; rfl, rfl⟩


/-- j bit steps -/
def steps : Nat → Int → Int
  | 0, r => r
  | n + 1, r => bit (steps n r)
theorem steps_one {q v b : Int} {j : Nat} (h : q = steps j (xr v b)) : (Go.bits .and .u32 q 1 == 1) = true → xr (q / 2) 3988292384 = steps (j + 1) (xr v b) := by
  intro hb
  show _ = bit (steps j (xr v b))
  rw [← h]
  unfold bit lowbit
  rw [if_pos hb]
theorem steps_zero {q v b : Int} {j : Nat} (h : q = steps j (xr v b)) : (Go.bits .and .u32 q 1 == 1) = false → q / 2 = steps (j + 1) (xr v b) := by
  intro hb
  show _ = bit (steps j (xr v b))
  rw [← h]
  unfold bit lowbit
  rw [if_neg (by rw [hb]; decide)]

set_option maxHeartbeats 400000 in
theorem refadd_any (s : Int) (A : Option Addr) (n c : Nat) (xs : List Int) (w : World) (hr : RdB w A n xs) :
    Calls Tryd.prog 27 #[.int .u32 s, .slice A n c] w fun e w' => e = .returned (.int .u32 (refadd s xs)) ∧ w = w' := by
  have HR := Lib.hid hr
  have hn := hr.max
  clear hr
  go_enter Tryd.func27, Tryd.ntmps27
  go_wp2
  go_loop [5, 6] (fun r i => ∃ (k : Nat) (v : Int), k ≤ n ∧ i = .int .i64 k ∧ 0 ≤ v ∧ v ≤ 4294967295 ∧ r = .int .u32 v ∧ Aside0 (v = (xs.take k).foldl refbyt (flip s))) (fun _ i => n - (intOf i).toNat)
  case atStart => exact ⟨0, _, Nat.zero_le _, rfl, (U32_bits _ _ _).1, (U32_bits _ _ _).2, rfl, ⟨rfl⟩⟩
  case round =>
    obtain ⟨k, v, hk, rfl, hv0, hv1, rfl, HV⟩ := hrel
    by_cases hlt : k < n
    · obtain ⟨ad, rfl, hcell⟩ := HR.out.at_ k (by omega)
      have hb0 := (HR.out.2 k).1
      have hb1 := (HR.out.2 k).2
      have hstep := take_snoc xs k (by rw [HR.out.len]; exact hlt)
      generalize xs.getD k 0 = b at hcell hb0 hb1 hstep
      have HS := Aside0.mk hstep
      clear hstep
      have hq0 := (U32_bits .xor v b).1
      have hq1 := (U32_bits .xor v b).2
      go_wp2
      go_loop [5, 7] (fun r i => ∃ (j : Nat) (q : Int), j ≤ 8 ∧ i = .int .i64 j ∧ 0 ≤ q ∧ q ≤ 4294967295 ∧ r = .int .u32 q ∧ Aside0 (q = steps j (xr v b))) (fun _ i => 8 - (intOf i).toNat)
      case atStart => exact ⟨0, _, by omega, rfl, hq0, hq1, rfl, ⟨rfl⟩⟩
      case round =>
        obtain ⟨j, q, hj, rfl, q0, q1, rfl, HQ⟩ := hrel
        by_cases hj2 : j < 8
        · cases hbit : (Go.bits .and .u32 q 1 == 1)
          · have h2 := Aside0.mk (steps_zero HQ.out hbit)
            go_wp2
            go_round
            case rel => exact ⟨j + 1, q / 2, by omega, by go_num, by omega, by omega, rfl, h2⟩
            case measure => simp [intOf]; omega
          · have h2 := Aside0.mk (steps_one HQ.out hbit)
            go_wp2
            go_round
            case rel => exact ⟨j + 1, xr (q / 2) 3988292384, by omega, by go_num, (U32_xr _ _).1, (U32_xr _ _).2, rfl, h2⟩
            case measure => simp [intOf]; omega
        · obtain rfl : j = 8 := by omega
          go_wp2
          go_round
          case rel => exact ⟨k + 1, q, by omega, by go_num, q0, q1, rfl, ⟨by rw [HS.out, List.foldl_append, ← HV.out, HQ.out]; rfl⟩⟩
          case measure => simp [intOf]; omega
    · obtain rfl : k = n := by omega
      have HF : Aside0 (v = xs.foldl refbyt (flip s)) := ⟨by rw [HV.out, List.take_of_length_le (by have := HR.out.len; omega)]⟩
      go_wp2
      go_ret
      exact ⟨by unfold refadd; rw [← HF.out]; rfl, rfl⟩

theorem refsum_any (A : Option Addr) (n c : Nat) (xs : List Int) (w : World) (hr : RdB w A n xs) :
    Calls Tryd.prog 21 #[.slice A n c] w fun e w' => e = .returned (.int .u32 (refadd 0 xs)) ∧ w = w' := by
  have HR := Lib.hid hr
  clear hr
  go_enter Tryd.func21, Tryd.ntmps21
  go_wp2_with (go_at_call 27; refine (refadd_any _ _ _ _ xs _ HR.out).mono ?_; rintro e w' ⟨rfl, rfl⟩)
  go_ret
  exact ⟨rfl, rfl⟩
end Go.Proofs.YtjebmlfcdnpepaaDoor.crcw
