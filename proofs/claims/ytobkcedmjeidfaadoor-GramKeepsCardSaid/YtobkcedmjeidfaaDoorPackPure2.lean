/- Plain laws of the statements of layer 1. -/
import Derived.Test.YtobkcedmjeidfaaDoorPackPure
import Derived.Test.YtobkcedmjeidfaaDoorSame
set_option linter.unusedVariables false
set_option linter.unusedSimpArgs false
namespace Go.Proofs.YtobkcedmjeidfaaDoor.packp
open Go Go.Proofs.YtobkcedmjeidfaaDoor.base Go.Proofs.YtobkcedmjeidfaaDoor.samew

theorem enc_mono (x y : Nat) (h : x ≤ y) : (enc x).length ≤ (enc y).length := by
  induction x using Nat.strongRecOn generalizing y with
  | _ x ih =>
    rcases Nat.lt_or_ge x 128 with c | c
    · rw [enc_small x c]
      have := enc_ne y
      cases e : enc y with
      | nil => exact absurd e this
      | cons => simp
    · rw [enc_big x c, enc_big y (by omega), List.length_cons, List.length_cons]
      have := ih (x / 128) (by omega) (y / 128) (Nat.div_le_div_right h)
      omega
theorem enc_free (x y : Nat) (r s : List Int) (hx : x < 9223372036854775808) (hy : y < 9223372036854775808) (h : enc x ++ r = enc y ++ s) : x = y := by
  have hp : (128 : Nat) ^ (9 - 0) = 9223372036854775808 := by decide
  have h1 := dec_enc x 0 r (by rw [hp]; exact hx) (by decide) (fun h => absurd h (by decide))
  have h2 := dec_enc y 0 s (by rw [hp]; exact hy) (by decide) (fun h => absurd h (by decide))
  rw [h, h2] at h1
  have := congrArg Prod.fst h1
  simp at this
  omega
theorem enc_pre (x y : Nat) (n : Nat) (hx : x < 9223372036854775808) (hy : y < 9223372036854775808) (hn : n = min (enc x).length (enc y).length) (h : (enc x).take n = (enc y).take n) : x = y := by
  rcases Nat.le_total (enc x).length (enc y).length with c | c
  · rw [List.take_of_length_le (by omega)] at h
    refine enc_free x y ((enc y).drop n) [] hx hy ?_
    rw [h, List.take_append_drop, List.append_nil]
  · rw [List.take_of_length_le (l := enc y) (by omega)] at h
    refine enc_free x y [] ((enc x).drop n) hx hy ?_
    rw [← h, List.take_append_drop, List.append_nil]
/-- PackRises' last line -/
theorem rises (x y : Int) (n : Nat) (hx : 0 ≤ x) (hx1 : x ≤ 9223372036854775807) (hy : 0 ≤ y) (hy1 : y ≤ 9223372036854775807) (hn : n = min (encI x).length (encI y).length) : (eqL ((encI x).take n) ((encI y).take n) == (x == y)) = true := by
  by_cases e : x = y
  · subst e
    rw [eqL_self]; simp
  · have : (encI x).take n ≠ (encI y).take n := fun h => e (by
      have := enc_pre x.toNat y.toNat n (by omega) (by omega) hn h
      omega)
    rw [eqL_ne this]; simp [e]
theorem encI_mono (x y : Int) (h : x ≤ y) : (encI x).length ≤ (encI y).length := enc_mono _ _ (by omega)
theorem encI_len (x : Int) (h : x ≤ 9223372036854775807) : 1 ≤ (encI x).length ∧ (encI x).length ≤ 9 := enc_len9 _ (by omega)
theorem encAll_one (x : Int) : encAll [x] = encI x := by simp [encAll]
/-- what was put is taken -/
theorem put_take (x : Int) (r : List Int) (hx : 0 ≤ x) (hx1 : x ≤ 9223372036854775807) : dec 0 (encI x ++ r) = (x, (encI x).length) := by
  have hp : (128 : Nat) ^ (9 - 0) = 9223372036854775808 := by decide
  have := dec_enc x.toNat 0 r (by rw [hp]; omega) (by decide) (fun h => absurd h (by decide))
  unfold encI
  rw [this]
  refine Prod.ext ?_ rfl
  show ((x.toNat : Nat) : Int) = x
  omega
/-- what is taken are the bytes that Put makes -/
theorem take_put (xs : List Int) (hx : By xs) (h : (dec 0 xs).2 ≠ 0) : 0 ≤ (dec 0 xs).1 ∧ (dec 0 xs).1 ≤ 9223372036854775807 ∧ (dec 0 xs).2 ≤ xs.length ∧ encI (dec 0 xs).1 = xs.take (dec 0 xs).2 := by
  obtain ⟨x, e1, e2, e3, _, e5⟩ := dec_back 0 xs hx h
  have hp : (128 : Nat) ^ (9 - 0) = 9223372036854775808 := by decide
  rw [hp] at e2
  refine ⟨by omega, by omega, e3, ?_⟩
  unfold encI
  rw [e1, ← e5]
  rfl
theorem dec_len (xs : List Int) (hx : By xs) : (dec 0 xs).2 ≤ xs.length := by
  by_cases h : (dec 0 xs).2 = 0
  · omega
  · exact (take_put xs hx h).2.2.1
end Go.Proofs.YtobkcedmjeidfaaDoor.packp
