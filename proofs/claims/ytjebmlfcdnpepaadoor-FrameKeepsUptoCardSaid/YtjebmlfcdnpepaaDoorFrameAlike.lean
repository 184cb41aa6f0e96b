/- What the law's alike computes; the law's reading of slices of slices. -/
import Derived.Test.YtjebmlfcdnpepaaDoorFrameRef
set_option linter.unusedVariables false
set_option linter.unusedSimpArgs false
namespace Go.Proofs.YtjebmlfcdnpepaaDoor.framer
open Go.RowKit Go.Proofs.YtjebmlfcdnpepaaDoorW.PrintWords Go.Proofs.YtjebmlfcdnpepaaDoor.base Go.Proofs.YtjebmlfcdnpepaaDoor.mem Go.Proofs.YtjebmlfcdnpepaaDoor.crcp Go.Proofs.YtjebmlfcdnpepaaDoor.crcw Go.Proofs.YtjebmlfcdnpepaaDoor.samew Go.Proofs.YtjebmlfcdnpepaaDoor.keep Go.Proofs.YtjebmlfcdnpepaaDoor.framep Go.Proofs.YtjebmlfcdnpepaaDoor.framew Go.Proofs.YtjebmlfcdnpepaaDoor.frameit Go.Proofs.YtjebmlfcdnpepaaDoor.framem Go.Proofs.YtjebmlfcdnpepaaDoor.framel Go.Proofs.YtjebmlfcdnpepaaDoor.framea

def eqLL (xs ys : List (List Int)) : Bool := decide (xs = ys)
theorem eqLL_self (xs : List (List Int)) : eqLL xs xs = true := decide_eq_true rfl
theorem eqLL_ne {xs ys : List (List Int)} (h : xs ≠ ys) : eqLL xs ys = false := decide_eq_false h
theorem RdBB.drawn {w : World} {A : Option Addr} {n : Nat} {xs : List (List Int)} (h : RdBB w A n xs) (k : Nat) : RdBB (w.drewN k) A n xs := h.below (pw_below_drewN (Below.refl _ _) k)
set_option maxHeartbeats 1000000 in
theorem alike_any (A : Option Addr) (n c : Nat) (xs : List (List Int)) (A' : Option Addr) (n' c' : Nat) (ys : List (List Int)) (w : World) (hx : RdBB w A n xs) (hy : RdBB w A' n' ys) :
    Calls Tryd.prog 15 #[.slice A n c, .slice A' n' c'] w fun e w' => e = .returned (.bool (eqLL xs ys)) ∧ Drawn0 w w' := by
  have HX := Lib.hid hx
  have HY := Lib.hid hy
  have hn := hx.2.1
  have hn' := hy.2.1
  clear hx hy
  by_cases hlen : n = n'
  · subst hlen
    clear hn'
    go_enter Tryd.func15, Tryd.ntmps15
    go_wp2
    go_loopw [5, 13] (fun _ i wr => ∃ k : Nat, k ≤ n ∧ i = .int .i64 k ∧ Aside0 (xs.take k = ys.take k) ∧ Drawn0 w wr) (fun _ i _ => n - (intOf i).toNat)
    case atStart => exact ⟨0, by omega, rfl, ⟨rfl⟩, Drawn0.refl _⟩
    case round =>
      obtain ⟨k, hk, rfl, HE, HD⟩ := hrel
      have HXr : Hid (RdBB wr A n xs) := Lib.hid (by obtain ⟨q, rfl⟩ := HD; exact RdBB.drawn HX.out q)
      have HYr : Hid (RdBB wr A' n ys) := Lib.hid (by obtain ⟨q, rfl⟩ := HD; exact RdBB.drawn HY.out q)
      by_cases hlt : k < n
      · obtain ⟨ad, rfl, a1, m1, c1, hcx, hc1, hr1⟩ := HXr.out.at_ k hlt
        obtain ⟨ad', rfl, a2, m2, c2, hcy, hc2, hr2⟩ := HYr.out.at_ k hlt
        have H1 := Lib.hid hr1
        have H2 := Lib.hid hr2
        clear hr1 hr2
        by_cases hne : xs.getD k [] = ys.getD k []
        · have h2 : xs.take (k + 1) = ys.take (k + 1) := by rw [take_snoc2 xs k (by rw [HX.out.1]; exact hlt), take_snoc2 ys k (by rw [HY.out.1]; exact hlt), HE.out, hne]
          rw [← hne] at H2
          have HT := Aside0.mk h2
          generalize xs.getD k [] = x at H1 H2
          have HS : Hid (∀ q, Calls Tryd.prog 12 #[.slice a1 m1 c1, .slice a2 m2 c2] (wr.drewN q) fun e w' => e = .returned (.bool true) ∧ Drawn0 (wr.drewN q) w') := Lib.hid fun q => by
            have := same_any a1 m1 c1 x a2 m2 c2 x (wr.drewN q) (H1.out.drawn q) (H2.out.drawn q)
            rwa [eqL_self] at this
          clear h2 hne
          go_wp2
          go_quiet ((go_at_call 12; exact Calls.quiet_of ((HS.out _).mono fun _ _ h => ⟨h.1, h.2.out⟩)))
          go_wp2
          go_roundw
          case rel => exact ⟨k + 1, by omega, by go_num, HT, HD.step _⟩
          case measure => simp [intOf]; omega
        · have HF : Hid (eqLL xs ys = false) := Lib.hid (eqLL_ne fun e => hne (by rw [e]))
          have HS : Hid (∀ q, Calls Tryd.prog 12 #[.slice a1 m1 c1, .slice a2 m2 c2] (wr.drewN q) fun e w' => e = .returned (.bool false) ∧ Drawn0 (wr.drewN q) w') := Lib.hid fun q => by
            have := same_any a1 m1 c1 _ a2 m2 c2 _ (wr.drewN q) (H1.out.drawn q) (H2.out.drawn q)
            rwa [eqL_ne hne] at this
          clear hne
          go_wp2
          go_quiet ((go_at_call 12; exact Calls.quiet_of ((HS.out _).mono fun _ _ h => ⟨h.1, h.2.out⟩)))
          go_wp2
          go_ret
          exact ⟨by rw [HF.out]; rfl, HD.step _⟩
      · obtain rfl : k = n := by omega
        have HF : Hid (eqLL xs ys = true) := Lib.hid (by
          have h := HE.out
          rw [List.take_of_length_le (by have := HX.out.1; omega), List.take_of_length_le (by have := HY.out.1; omega)] at h
          rw [h]; exact eqLL_self _)
        go_wp2
        go_ret
        exact ⟨by rw [HF.out]; rfl, HD⟩
  · have HF : Hid (eqLL xs ys = false) := Lib.hid (eqLL_ne fun e => hlen (by rw [← HX.out.1, ← HY.out.1, e]))
    have hb : ((n : Int) != (n' : Int)) = true := by rw [bne_iff_ne]; omega
    clear hlen
    go_enter Tryd.func15, Tryd.ntmps15
    go_wp2
    go_ret
    exact ⟨by rw [HF.out]; rfl, Drawn0.refl _⟩
end Go.Proofs.YtjebmlfcdnpepaaDoor.framer
