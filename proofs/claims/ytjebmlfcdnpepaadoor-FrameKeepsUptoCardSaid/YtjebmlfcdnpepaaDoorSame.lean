/- What the law's own 'same' tells. PKG is the law's package. -/
import Derived.Test.YtjebmlfcdnpepaaDoorMem
import Derived.Outline
import Derived.WalkLawsBesides
import Derived.BigQuiet
set_option linter.unusedVariables false
set_option linter.unusedSimpArgs false
namespace Go.Proofs.YtjebmlfcdnpepaaDoor.samew
open Go.RowKit Go.Proofs.YtjebmlfcdnpepaaDoorW.PrintWords Go.Proofs.YtjebmlfcdnpepaaDoor.base Go.Proofs.YtjebmlfcdnpepaaDoor.mem

def eqL (xs ys : List Int) : Bool := decide (xs = ys)
theorem eqL_self (xs : List Int) : eqL xs xs = true := decide_eq_true rfl
theorem eqL_ne {xs ys : List Int} (h : xs ≠ ys) : eqL xs ys = false := decide_eq_false h
theorem drawn_rd {w w' : World} (h : Drawn0 w w') {A : Option Addr} {n : Nat} {xs : List Int} (hr : RdB w A n xs) : RdB w' A n xs := hr.below h.below
theorem same_len {xs ys : List Int} {n n' : Nat} (h1 : xs.length = n) (h2 : ys.length = n') (h : n ≠ n') : eqL xs ys = false := eqL_ne fun e => h (by rw [← h1, ← h2, e])
theorem same_at {xs ys : List Int} {k : Nat} (h : xs.getD k 0 ≠ ys.getD k 0) : eqL xs ys = false := eqL_ne fun e => h (by rw [e])
theorem same_all {xs ys : List Int} {n : Nat} (h1 : xs.length = n) (h2 : ys.length = n) (h : xs.take n = ys.take n) : eqL xs ys = true := by
  rw [List.take_of_length_le (by omega), List.take_of_length_le (by omega)] at h
  rw [h]; exact eqL_self _

set_option maxHeartbeats 800000 in
theorem same_any (A : Option Addr) (n c : Nat) (xs : List Int) (A' : Option Addr) (n' c' : Nat) (ys : List Int) (w : World) (hx : RdB w A n xs) (hy : RdB w A' n' ys) :
    Calls Tryd.prog 12 #[.slice A n c, .slice A' n' c'] w fun e w' => e = .returned (.bool (eqL xs ys)) ∧ Drawn0 w w' := by
  have HX := Lib.hid hx
  have HY := Lib.hid hy
  have hn := hx.max
  have hn' := hy.max
  clear hx hy
  by_cases hlen : n = n'
  · subst hlen
    clear hn'
    go_enter Tryd.func12, Tryd.ntmps12
    go_wp2
    go_loopw [5, 13] (fun _ i wr => ∃ k : Nat, k ≤ n ∧ i = .int .i64 k ∧ Aside0 (xs.take k = ys.take k) ∧ Drawn0 w wr) (fun _ i _ => n - (intOf i).toNat)
    case atStart => exact ⟨0, by omega, rfl, ⟨rfl⟩, Drawn0.refl _⟩
    case round =>
      obtain ⟨k, hk, rfl, HE, HD⟩ := hrel
      by_cases hlt : k < n
      · obtain ⟨ad, rfl, hcx⟩ := (drawn_rd HD HX.out).at_ k hlt
        obtain ⟨ad', rfl, hcy⟩ := (drawn_rd HD HY.out).at_ k hlt
        by_cases hne : xs.getD k 0 = ys.getD k 0
        · have h2 : xs.take (k + 1) = ys.take (k + 1) := by rw [take_snoc xs k (by rw [HX.out.len]; exact hlt), take_snoc ys k (by rw [HY.out.len]; exact hlt), HE.out, hne]
          rw [← hne] at hcy
          generalize xs.getD k 0 = x at hcx hcy
          have H2 := Aside0.mk h2
          clear h2 hne
          go_wp2
          go_quiet (fail)
          go_wp2
          go_roundw
          case rel => exact ⟨k + 1, by omega, by go_num, H2, HD.step _⟩
          case measure => simp [intOf]; omega
        · have HF := Aside0.mk (same_at hne)
          have hb : (xs.getD k 0 != ys.getD k 0) = true := by simpa using hne
          generalize xs.getD k 0 = x at hcx hb
          generalize ys.getD k 0 = y at hcy hb
          clear hne
          go_wp2
          go_quiet (fail)
          go_wp2
          go_ret
          exact ⟨by rw [HF.out]; rfl, HD.step _⟩
      · obtain rfl : k = n := by omega
        have HF := Aside0.mk (same_all HX.out.len HY.out.len HE.out)
        go_wp2
        go_ret
        exact ⟨by rw [HF.out]; rfl, HD⟩
  · have HF := Aside0.mk (same_len HX.out.len HY.out.len hlen)
    have hb : ((n : Int) != (n' : Int)) = true := by rw [bne_iff_ne]; omega
    clear hlen
    go_enter Tryd.func12, Tryd.ntmps12
    go_wp2
    go_ret
    exact ⟨by rw [HF.out]; rfl, Drawn0.refl _⟩
end Go.Proofs.YtjebmlfcdnpepaaDoor.samew
