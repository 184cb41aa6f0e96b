/- What pack.Take and the reference's Take compute. -/
import Derived.Test.YtobkcedmjeidfaaDoorPackPure
import Derived.Test.YtobkcedmjeidfaaDoorMem
import Derived.Outline
import Derived.WalkLawsBesides
import Derived.BigQuiet
set_option linter.unusedVariables false
set_option linter.unusedSimpArgs false
namespace Go.Proofs.YtobkcedmjeidfaaDoor.packw
open Go.RowKit Go.Proofs.YtobkcedmjeidfaaDoorW.PrintWords Go.Proofs.YtobkcedmjeidfaaDoor.base Go.Proofs.YtobkcedmjeidfaaDoor.mem Go.Proofs.YtobkcedmjeidfaaDoor.packp

theorem or_shift64 (x b : Int) (i : Nat) (hi : i < 9) (hx0 : 0 ≤ x) (hx : x < 128 ^ i) (hb0 : 0 ≤ b) (hb : b ≤ 255) :
    Go.bits .or .i64 x (wrap64 (wrap64 (Go.bits .and .u8 b 127) * 2 ^ (7 * i))) = x + 128 ^ i * (b % 128) := by
  have e1 : Go.bits .and .u8 b 127 = b % 128 := bits_mask .u8 8 (by decide) wraps_u8 7 (by decide) b hb0 (by omega)
  have e2 : wrap64 (b % 128) = b % 128 := by unfold wrap64; omega
  have h := or_shift x b i hi hx0 hx hb0 hb
  rw [show ∀ n : Int, IntKind.i64.wrap n = wrap64 n from fun n => by rw [IntKind.wrap_i64]; unfold wrap64; omega, e1] at h
  rw [e1, e2]
  exact h

set_option maxHeartbeats 1000000 in
theorem take_any (A : Option Addr) (n c : Nat) (xs : List Int) (w : World) (hr : RdB w A n xs) :
    Calls Tryd.prog 31 #[.slice A n c] w fun e w' => e = .returned (.tuple #[.int .i64 (dec 0 xs).1, .int .i64 ((dec 0 xs).2 : Nat)]) ∧ w = w' := by
  have HR := Lib.hid hr
  have hn := hr.max
  clear hr
  go_enter Tryd.func31, Tryd.ntmps31
  go_wp2
  go_loop [4, 5] (fun a b => ∃ (i : Nat) (x : Int), i ≤ 9 ∧ i ≤ n ∧ b = .int .i64 i ∧ 0 ≤ x ∧ a = .int .i64 x ∧ Aside0 (x < 128 ^ i) ∧ Aside0 (fin x i (dec i (xs.drop i)) = dec 0 xs)) (fun _ i => n - (intOf i).toNat)
  case atStart => exact ⟨0, 0, by omega, by omega, rfl, by omega, rfl, ⟨by decide⟩, ⟨fin_start xs⟩⟩
  case round =>
    obtain ⟨i, x, hi9, hin, rfl, hx0, rfl, HX, HF⟩ := hrel
    by_cases hlt : i < n
    · by_cases h9 : i < 9
      · obtain ⟨ad, rfl, hcell⟩ := HR.out.at_ i hlt
        have hb0 := (HR.out.2 i).1
        have hb1 := (HR.out.2 i).2
        have hlen : i < xs.length := by rw [HR.out.len]; exact hlt
        have ho := or_shift64 x (xs.getD i 0) i h9 hx0 HX.out hb0 hb1
        have hnx := next_lt x (xs.getD i 0) i hx0 HX.out hb0 hb1
        by_cases hbig : 127 < xs.getD i 0
        · have hf := fin_more xs x i hlen h9 hbig
          rw [show xs.getD i 0 - 128 = xs.getD i 0 % 128 from by omega] at hf
          generalize xs.getD i 0 = b at hcell hb0 hb1 hbig hf ho hnx
          have HO := Lib.hid ho
          have HN := Lib.hid hnx
          have HF2 := Lib.hid hf
          clear ho hnx hf
          go_wp2
          go_round
          case rel => exact ⟨i + 1, x + 128 ^ i * (b % 128), by omega, by omega, by go_num, HN.out.1, by rw [HO.out], ⟨HN.out.2⟩, ⟨by rw [← HF2.out]; exact HF.out⟩⟩
          case measure => simp [intOf]; omega
        · by_cases h0 : xs.getD i 0 = 0
          · by_cases hi0 : 0 < i
            · have HF2 := Lib.hid ((fin_bad xs x i hlen h0 hi0).symm.trans HF.out)
              rw [h0] at hcell
              clear ho hnx hbig hb0 hb1 h0
              go_wp2
              go_ret2
              exact ⟨by rw [← HF2.out]; rfl, rfl⟩
            · have HF2 := Lib.hid ((fin_end xs x i hlen h9 (by omega) (by omega)).symm.trans HF.out)
              rw [h0] at hcell HF2 ho
              have HO := Lib.hid ho
              clear ho hnx hbig hb0 hb1 h0
              go_wp2
              go_ret2
              exact ⟨by rw [← HF2.out]; exact congrArg (fun v => Ending.returned (.tuple #[.int .i64 v, .int .i64 ((i : Int) + 1)])) HO.out, rfl⟩
          · have HF2 := Lib.hid ((fin_end xs x i hlen h9 (by omega) (by omega)).symm.trans HF.out)
            have hm : xs.getD i 0 % 128 = xs.getD i 0 := by omega
            rw [hm] at ho
            generalize xs.getD i 0 = b at hcell hb0 hb1 hbig ho h0 HF2
            have hb2 : (b == 0) = false := beq_eq_false_iff_ne.2 h0
            have HO := Lib.hid ho
            clear ho hnx hm h0
            go_wp2
            go_ret2
            exact ⟨by rw [← HF2.out]; exact congrArg (fun v => Ending.returned (.tuple #[.int .i64 v, .int .i64 ((i : Int) + 1)])) HO.out, rfl⟩
      · have HF2 := Lib.hid ((fin_stop xs x i (.inr (by omega))).symm.trans HF.out)
        obtain rfl : i = 9 := by omega
        go_wp2
        go_ret2
        exact ⟨by rw [← HF2.out]; rfl, rfl⟩
    · have HF2 := Lib.hid ((fin_stop xs x i (.inl (by rw [HR.out.len]; omega))).symm.trans HF.out)
      go_wp2
      go_ret2
      exact ⟨by rw [← HF2.out]; rfl, rfl⟩
end Go.Proofs.YtobkcedmjeidfaaDoor.packw
