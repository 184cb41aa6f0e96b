/- What wire.within, wire.Valid and the reference's Valid compute. -/
import Derived.Test.YtobkcedmjeidfaaDoorWirePure
import Derived.Test.YtobkcedmjeidfaaDoorPackRef
set_option linter.unusedVariables false
set_option linter.unusedSimpArgs false
namespace Go.Proofs.YtobkcedmjeidfaaDoor.wirew
open Go.RowKit Go.Proofs.YtobkcedmjeidfaaDoorW.PrintWords Go.Proofs.YtobkcedmjeidfaaDoor.base Go.Proofs.YtobkcedmjeidfaaDoor.mem Go.Proofs.YtobkcedmjeidfaaDoor.packp Go.Proofs.YtobkcedmjeidfaaDoor.packw Go.Proofs.YtobkcedmjeidfaaDoor.samew Go.Proofs.YtobkcedmjeidfaaDoor.wirep

theorem within_any (x lo hi : Int) (w : World) : Calls Tryd.prog 40 #[.int .i64 x, .int .i64 lo, .int .i64 hi] w fun e w' => e = .returned (.bool (inb x lo hi)) ∧ w = w' := by
  by_cases h1 : lo ≤ x
  · have d1 : decide (lo ≤ x) = true := decide_eq_true h1
    by_cases h2 : x ≤ hi
    · have d2 : decide (x ≤ hi) = true := decide_eq_true h2
      have hr : Hid (inb x lo hi = true) := Lib.hid (by unfold inb; rw [d1, d2]; rfl)
      go_enter Tryd.func40, Tryd.ntmps40
      go_wp2
      go_ret
      exact ⟨by rw [hr.out]; rfl, rfl⟩
    · have d2 : decide (x ≤ hi) = false := decide_eq_false h2
      have hr : Hid (inb x lo hi = false) := Lib.hid (by unfold inb; rw [d1, d2]; rfl)
      go_enter Tryd.func40, Tryd.ntmps40
      go_wp2
      go_ret
      exact ⟨by rw [hr.out]; rfl, rfl⟩
  · have d1 : decide (lo ≤ x) = false := decide_eq_false h1
    have hr : Hid (inb x lo hi = false) := Lib.hid (by unfold inb; rw [d1]; rfl)
    go_enter Tryd.func40, Tryd.ntmps40
    go_wp2
    go_ret
    exact ⟨by rw [hr.out]; rfl, rfl⟩

theorem valid_any (m : M) (w : World) : Calls Tryd.prog 25 #[m.agg] w fun e w' => e = .returned (.bool m.valid) ∧ Below w.heap.size w w' := by
  obtain ⟨k, o, d, u, v⟩ := m
  show Calls Tryd.prog 25 #[.agg #[.int .i64 k, .int .i64 o, .int .i64 d, .int .i64 u, .int .i64 v]] w _
  have e : M.valid ⟨k, o, d, u, v⟩ = (inb k 1 4 && inb o 0 7 && inb d 0 31 && inb u 1 1099511627776 && (if k = 4 then inb v 0 31 else v == 0)) := rfl
  cases h1 : inb k 1 4
  · have hr : Hid (M.valid ⟨k, o, d, u, v⟩ = false) := Lib.hid (by rw [e, h1]; rfl)
    clear e
    go_enter Tryd.func25, Tryd.ntmps25
    go_wp2_with (go_at_call 40; refine (within_any _ _ _ _).mono ?_; rintro e w' ⟨rfl, rfl⟩; first | rw [h1] | rw [h2] | rw [h3] | rw [h4] | rw [h5])
    go_ret
    exact ⟨by rw [hr.out]; rfl, (Below.refl _ _).alloc (Nat.le_refl _) _⟩
  cases h2 : inb o 0 7
  · have hr : Hid (M.valid ⟨k, o, d, u, v⟩ = false) := Lib.hid (by rw [e, h1, h2]; rfl)
    clear e
    go_enter Tryd.func25, Tryd.ntmps25
    go_wp2_with (go_at_call 40; refine (within_any _ _ _ _).mono ?_; rintro e w' ⟨rfl, rfl⟩; first | rw [h1] | rw [h2] | rw [h3] | rw [h4] | rw [h5])
    go_ret
    exact ⟨by rw [hr.out]; rfl, (Below.refl _ _).alloc (Nat.le_refl _) _⟩
  cases h3 : inb d 0 31
  · have hr : Hid (M.valid ⟨k, o, d, u, v⟩ = false) := Lib.hid (by rw [e, h1, h2, h3]; rfl)
    clear e
    go_enter Tryd.func25, Tryd.ntmps25
    go_wp2_with (go_at_call 40; refine (within_any _ _ _ _).mono ?_; rintro e w' ⟨rfl, rfl⟩; first | rw [h1] | rw [h2] | rw [h3] | rw [h4] | rw [h5])
    go_ret
    exact ⟨by rw [hr.out]; rfl, (Below.refl _ _).alloc (Nat.le_refl _) _⟩
  cases h4 : inb u 1 1099511627776
  · have hr : Hid (M.valid ⟨k, o, d, u, v⟩ = false) := Lib.hid (by rw [e, h1, h2, h3, h4]; rfl)
    clear e
    go_enter Tryd.func25, Tryd.ntmps25
    go_wp2_with (go_at_call 40; refine (within_any _ _ _ _).mono ?_; rintro e w' ⟨rfl, rfl⟩; first | rw [h1] | rw [h2] | rw [h3] | rw [h4] | rw [h5])
    go_ret
    exact ⟨by rw [hr.out]; rfl, (Below.refl _ _).alloc (Nat.le_refl _) _⟩
  by_cases hk : k = 4
  · subst hk
    cases h5 : inb v 0 31
    · have hr : Hid (M.valid ⟨4, o, d, u, v⟩ = false) := Lib.hid (by rw [e, h1, h2, h3, h4, if_pos rfl, h5]; rfl)
      clear e
      go_enter Tryd.func25, Tryd.ntmps25
      go_wp2_with (go_at_call 40; refine (within_any _ _ _ _).mono ?_; rintro e w' ⟨rfl, rfl⟩; first | rw [h1] | rw [h2] | rw [h3] | rw [h4] | rw [h5])
      go_ret
      exact ⟨by rw [hr.out]; rfl, (Below.refl _ _).alloc (Nat.le_refl _) _⟩
    · have hr : Hid (M.valid ⟨4, o, d, u, v⟩ = true) := Lib.hid (by rw [e, h1, h2, h3, h4, if_pos rfl, h5]; rfl)
      clear e
      go_enter Tryd.func25, Tryd.ntmps25
      go_wp2_with (go_at_call 40; refine (within_any _ _ _ _).mono ?_; rintro e w' ⟨rfl, rfl⟩; first | rw [h1] | rw [h2] | rw [h3] | rw [h4] | rw [h5])
      go_ret
      exact ⟨by rw [hr.out]; rfl, (Below.refl _ _).alloc (Nat.le_refl _) _⟩
  · have hkb : (k == 4) = false := beq_eq_false_iff_ne.2 hk
    by_cases hv : v = 0
    · subst hv
      have hr : Hid (M.valid ⟨k, o, d, u, 0⟩ = true) := Lib.hid (by rw [e, h1, h2, h3, h4, if_neg hk]; rfl)
      clear e
      have h5 := h4
      go_enter Tryd.func25, Tryd.ntmps25
      go_wp2_with (go_at_call 40; refine (within_any _ _ _ _).mono ?_; rintro e w' ⟨rfl, rfl⟩; first | rw [h1] | rw [h2] | rw [h3] | rw [h4] | rw [h5])
      go_ret
      exact ⟨by rw [hr.out]; rfl, (Below.refl _ _).alloc (Nat.le_refl _) _⟩
    · have hvb : (v == 0) = false := beq_eq_false_iff_ne.2 hv
      have hr : Hid (M.valid ⟨k, o, d, u, v⟩ = false) := Lib.hid (by rw [e, h1, h2, h3, h4, if_neg hk, hvb]; rfl)
      clear e
      have h5 := h4
      go_enter Tryd.func25, Tryd.ntmps25
      go_wp2_with (go_at_call 40; refine (within_any _ _ _ _).mono ?_; rintro e w' ⟨rfl, rfl⟩; first | rw [h1] | rw [h2] | rw [h3] | rw [h4] | rw [h5])
      go_ret
      exact ⟨by rw [hr.out]; rfl, (Below.refl _ _).alloc (Nat.le_refl _) _⟩
set_option maxHeartbeats 2000000 in
theorem refvalid_any (m : M) (w : World) : Calls Tryd.prog 26 #[m.agg] w fun e w' => e = .returned (.bool m.valid) ∧ Below w.heap.size w w' := by
  obtain ⟨k, o, d, u, v⟩ := m
  show Calls Tryd.prog 26 #[.agg #[.int .i64 k, .int .i64 o, .int .i64 d, .int .i64 u, .int .i64 v]] w _
  by_cases c1 : k < 1
  · have hr : Hid (M.valid ⟨k, o, d, u, v⟩ = false) := Lib.hid (Bool.eq_false_iff.2 fun h => by have := M.valid_parts h; dsimp only at this; omega)
    have b1 : decide (k < 1) = true := decide_eq_true c1
    go_enter Tryd.func26, Tryd.ntmps26
    go_wp2
    go_ret
    exact ⟨by rw [hr.out]; rfl, (Below.refl _ _).alloc (Nat.le_refl _) _⟩
  have b1 : decide (k < 1) = false := decide_eq_false c1
  by_cases c2 : 4 < k
  · have hr : Hid (M.valid ⟨k, o, d, u, v⟩ = false) := Lib.hid (Bool.eq_false_iff.2 fun h => by have := M.valid_parts h; dsimp only at this; omega)
    have b2 : decide (4 < k) = true := decide_eq_true c2
    go_enter Tryd.func26, Tryd.ntmps26
    go_wp2
    go_ret
    exact ⟨by rw [hr.out]; rfl, (Below.refl _ _).alloc (Nat.le_refl _) _⟩
  have b2 : decide (4 < k) = false := decide_eq_false c2
  by_cases c3 : o < 0
  · have hr : Hid (M.valid ⟨k, o, d, u, v⟩ = false) := Lib.hid (Bool.eq_false_iff.2 fun h => by have := M.valid_parts h; dsimp only at this; omega)
    have b3 : decide (o < 0) = true := decide_eq_true c3
    go_enter Tryd.func26, Tryd.ntmps26
    go_wp2
    go_ret
    exact ⟨by rw [hr.out]; rfl, (Below.refl _ _).alloc (Nat.le_refl _) _⟩
  have b3 : decide (o < 0) = false := decide_eq_false c3
  by_cases c4 : 8 ≤ o
  · have hr : Hid (M.valid ⟨k, o, d, u, v⟩ = false) := Lib.hid (Bool.eq_false_iff.2 fun h => by have := M.valid_parts h; dsimp only at this; omega)
    have b4 : decide (8 ≤ o) = true := decide_eq_true c4
    go_enter Tryd.func26, Tryd.ntmps26
    go_wp2
    go_ret
    exact ⟨by rw [hr.out]; rfl, (Below.refl _ _).alloc (Nat.le_refl _) _⟩
  have b4 : decide (8 ≤ o) = false := decide_eq_false c4
  by_cases c5 : d < 0
  · have hr : Hid (M.valid ⟨k, o, d, u, v⟩ = false) := Lib.hid (Bool.eq_false_iff.2 fun h => by have := M.valid_parts h; dsimp only at this; omega)
    have b5 : decide (d < 0) = true := decide_eq_true c5
    go_enter Tryd.func26, Tryd.ntmps26
    go_wp2
    go_ret
    exact ⟨by rw [hr.out]; rfl, (Below.refl _ _).alloc (Nat.le_refl _) _⟩
  have b5 : decide (d < 0) = false := decide_eq_false c5
  by_cases c6 : 32 ≤ d
  · have hr : Hid (M.valid ⟨k, o, d, u, v⟩ = false) := Lib.hid (Bool.eq_false_iff.2 fun h => by have := M.valid_parts h; dsimp only at this; omega)
    have b6 : decide (32 ≤ d) = true := decide_eq_true c6
    go_enter Tryd.func26, Tryd.ntmps26
    go_wp2
    go_ret
    exact ⟨by rw [hr.out]; rfl, (Below.refl _ _).alloc (Nat.le_refl _) _⟩
  have b6 : decide (32 ≤ d) = false := decide_eq_false c6
  by_cases c7 : u < 1
  · have hr : Hid (M.valid ⟨k, o, d, u, v⟩ = false) := Lib.hid (Bool.eq_false_iff.2 fun h => by have := M.valid_parts h; dsimp only at this; omega)
    have b7 : decide (u < 1) = true := decide_eq_true c7
    go_enter Tryd.func26, Tryd.ntmps26
    go_wp2
    go_ret
    exact ⟨by rw [hr.out]; rfl, (Below.refl _ _).alloc (Nat.le_refl _) _⟩
  have b7 : decide (u < 1) = false := decide_eq_false c7
  by_cases c8 : 1099511627776 < u
  · have hr : Hid (M.valid ⟨k, o, d, u, v⟩ = false) := Lib.hid (Bool.eq_false_iff.2 fun h => by have := M.valid_parts h; dsimp only at this; omega)
    have b8 : decide (1099511627776 < u) = true := decide_eq_true c8
    go_enter Tryd.func26, Tryd.ntmps26
    go_wp2
    go_ret
    exact ⟨by rw [hr.out]; rfl, (Below.refl _ _).alloc (Nat.le_refl _) _⟩
  have b8 : decide (1099511627776 < u) = false := decide_eq_false c8
  by_cases hk : k = 4
  · subst hk
    by_cases c9 : 0 ≤ v
    · have b9 : decide (0 ≤ v) = true := decide_eq_true c9
      by_cases c10 : v < 32
      · have b10 : decide (v < 32) = true := decide_eq_true c10
        have hr : Hid (M.valid ⟨4, o, d, u, v⟩ = true) := Lib.hid (M.valid_of (by dsimp only; omega))
        go_enter Tryd.func26, Tryd.ntmps26
        go_wp2
        go_ret
        exact ⟨by rw [hr.out]; rfl, (Below.refl _ _).alloc (Nat.le_refl _) _⟩
      · have b10 : decide (v < 32) = false := decide_eq_false c10
        have hr : Hid (M.valid ⟨4, o, d, u, v⟩ = false) := Lib.hid (Bool.eq_false_iff.2 fun h => by have := M.valid_parts h; dsimp only at this; omega)
        go_enter Tryd.func26, Tryd.ntmps26
        go_wp2
        go_ret
        exact ⟨by rw [hr.out]; rfl, (Below.refl _ _).alloc (Nat.le_refl _) _⟩
    · have b9 : decide (0 ≤ v) = false := decide_eq_false c9
      have hr : Hid (M.valid ⟨4, o, d, u, v⟩ = false) := Lib.hid (Bool.eq_false_iff.2 fun h => by have := M.valid_parts h; dsimp only at this; omega)
      go_enter Tryd.func26, Tryd.ntmps26
      go_wp2
      go_ret
      exact ⟨by rw [hr.out]; rfl, (Below.refl _ _).alloc (Nat.le_refl _) _⟩
  · have hkb : (k == 4) = false := beq_eq_false_iff_ne.2 hk
    by_cases hv : v = 0
    · subst hv
      have hr : Hid (M.valid ⟨k, o, d, u, 0⟩ = true) := Lib.hid (M.valid_of (by dsimp only; omega))
      go_enter Tryd.func26, Tryd.ntmps26
      go_wp2
      go_ret
      exact ⟨by rw [hr.out]; rfl, (Below.refl _ _).alloc (Nat.le_refl _) _⟩
    · have hvb : (v == 0) = false := beq_eq_false_iff_ne.2 hv
      have hr : Hid (M.valid ⟨k, o, d, u, v⟩ = false) := Lib.hid (Bool.eq_false_iff.2 fun h => by have := M.valid_parts h; dsimp only at this; omega)
      go_enter Tryd.func26, Tryd.ntmps26
      go_wp2
      go_ret
      exact ⟨by rw [hr.out]; rfl, (Below.refl _ _).alloc (Nat.le_refl _) _⟩
end Go.Proofs.YtobkcedmjeidfaaDoor.wirew
