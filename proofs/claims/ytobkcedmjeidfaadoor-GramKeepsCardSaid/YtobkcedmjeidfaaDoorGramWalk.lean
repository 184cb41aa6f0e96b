/- What gram.node, gram.number, gram.Valid and the reference's Valid compute. -/
import Derived.Test.YtobkcedmjeidfaaDoorWireWalk2
import Derived.Test.YtobkcedmjeidfaaDoorGramPure
set_option linter.unusedVariables false
set_option linter.unusedSimpArgs false
namespace Go.Proofs.YtobkcedmjeidfaaDoor.gramw
open Go.RowKit Go.Proofs.YtobkcedmjeidfaaDoorW.PrintWords Go.Proofs.YtobkcedmjeidfaaDoor.base Go.Proofs.YtobkcedmjeidfaaDoor.mem Go.Proofs.YtobkcedmjeidfaaDoor.packp Go.Proofs.YtobkcedmjeidfaaDoor.packw Go.Proofs.YtobkcedmjeidfaaDoor.samew Go.Proofs.YtobkcedmjeidfaaDoor.wirep Go.Proofs.YtobkcedmjeidfaaDoor.wirew Go.Proofs.YtobkcedmjeidfaaDoor.gramp

theorem node_any (x : Int) (w : World) : Calls Tryd.prog 23 #[.int .i64 x] w fun e w' => e = .returned (.bool (inb x 0 31)) ∧ w = w' := by
  by_cases h1 : 0 ≤ x
  · have d1 : decide (0 ≤ x) = true := decide_eq_true h1
    by_cases h2 : x < 32
    · have d2 : decide (x < 32) = true := decide_eq_true h2
      have hr : Hid (inb x 0 31 = true) := Lib.hid (inb_of (by omega))
      go_enter Tryd.func23, Tryd.ntmps23
      go_wp2
      go_ret
      exact ⟨by rw [hr.out]; rfl, rfl⟩
    · have d2 : decide (x < 32) = false := decide_eq_false h2
      have hr : Hid (inb x 0 31 = false) := Lib.hid (Bool.eq_false_iff.2 fun h => by have := inb_true h; omega)
      go_enter Tryd.func23, Tryd.ntmps23
      go_wp2
      go_ret
      exact ⟨by rw [hr.out]; rfl, rfl⟩
  · have d1 : decide (0 ≤ x) = false := decide_eq_false h1
    have hr : Hid (inb x 0 31 = false) := Lib.hid (Bool.eq_false_iff.2 fun h => by have := inb_true h; omega)
    go_enter Tryd.func23, Tryd.ntmps23
    go_wp2
    go_ret
    exact ⟨by rw [hr.out]; rfl, rfl⟩

theorem number_any (x : Int) (w : World) : Calls Tryd.prog 24 #[.int .i64 x] w fun e w' => e = .returned (.bool (inb x 0 1099511627776)) ∧ w = w' := by
  by_cases h1 : 0 ≤ x
  · have d1 : decide (0 ≤ x) = true := decide_eq_true h1
    by_cases h2 : x ≤ 1099511627776
    · have d2 : decide (x ≤ 1099511627776) = true := decide_eq_true h2
      have hr : Hid (inb x 0 1099511627776 = true) := Lib.hid (inb_of (by omega))
      go_enter Tryd.func24, Tryd.ntmps24
      go_wp2
      go_ret
      exact ⟨by rw [hr.out]; rfl, rfl⟩
    · have d2 : decide (x ≤ 1099511627776) = false := decide_eq_false h2
      have hr : Hid (inb x 0 1099511627776 = false) := Lib.hid (Bool.eq_false_iff.2 fun h => by have := inb_true h; omega)
      go_enter Tryd.func24, Tryd.ntmps24
      go_wp2
      go_ret
      exact ⟨by rw [hr.out]; rfl, rfl⟩
  · have d1 : decide (0 ≤ x) = false := decide_eq_false h1
    have hr : Hid (inb x 0 1099511627776 = false) := Lib.hid (Bool.eq_false_iff.2 fun h => by have := inb_true h; omega)
    go_enter Tryd.func24, Tryd.ntmps24
    go_wp2
    go_ret
    exact ⟨by rw [hr.out]; rfl, rfl⟩

set_option maxHeartbeats 2000000 in
theorem gvalid_any (g : G) (w : World) : Calls Tryd.prog 12 #[g.agg] w fun e w' => e = .returned (.bool g.valid) ∧ Below w.heap.size w w' := by
  obtain ⟨f, t, a, s, k, o, d, u, v⟩ := g
  show Calls Tryd.prog 12 #[.agg #[.int .i64 f, .int .i64 t, .int .i64 a, .int .i64 s, .int .i64 k, .int .i64 o, .int .i64 d, .int .i64 u, .int .i64 v]] w _
  have B1 := Lib.hid (below_alloc (Below.refl w.heap.size w) (.cells #[.int .i64 f, .int .i64 t, .int .i64 a, .int .i64 s, .int .i64 k, .int .i64 o, .int .i64 d, .int .i64 u, .int .i64 v] 26))
  by_cases c1 : 0 ≤ f ∧ f ≤ 31
  case neg =>
    have e1 : inb f 0 31 = false := Bool.eq_false_iff.2 fun h => c1 (inb_true h)
    have hr : Hid (G.valid ⟨f, t, a, s, ⟨k, o, d, u, v⟩⟩ = false) := Lib.hid (G.bad (fun h => by obtain ⟨h1', h2', h3', h4', h5', h6'⟩ := h; dsimp only at h1' h2' h3' h4' h5' h6'; omega))
    go_enter Tryd.func12, Tryd.ntmps12
    go_wp2_with ((go_at_call 23; refine (node_any _ _).mono ?_; rintro e w' ⟨rfl, rfl⟩; rw [e1]))
    go_ret
    exact ⟨by rw [hr.out]; rfl, (Below.refl _ _).alloc (Nat.le_refl _) _⟩
  have e1 : inb f 0 31 = true := inb_of c1
  by_cases c2 : 0 ≤ t ∧ t ≤ 31
  case neg =>
    have e2 : inb t 0 31 = false := Bool.eq_false_iff.2 fun h => c2 (inb_true h)
    have hr : Hid (G.valid ⟨f, t, a, s, ⟨k, o, d, u, v⟩⟩ = false) := Lib.hid (G.bad (fun h => by obtain ⟨h1', h2', h3', h4', h5', h6'⟩ := h; dsimp only at h1' h2' h3' h4' h5' h6'; omega))
    go_enter Tryd.func12, Tryd.ntmps12
    go_wp2_with ((go_at_call 23; refine (node_any _ _).mono ?_; rintro e w' ⟨rfl, rfl⟩; first | rw [e1] | rw [e2]))
    go_ret
    exact ⟨by rw [hr.out]; rfl, (Below.refl _ _).alloc (Nat.le_refl _) _⟩
  have e2 : inb t 0 31 = true := inb_of c2
  by_cases c3 : f = t
  case pos =>
    subst c3
    have e3 : (f == f) = true := beq_self_eq_true _
    have hr : Hid (G.valid ⟨f, f, a, s, ⟨k, o, d, u, v⟩⟩ = false) := Lib.hid (G.bad (fun h => by obtain ⟨h1', h2', h3', h4', h5', h6'⟩ := h; dsimp only at h1' h2' h3' h4' h5' h6'; omega))
    go_enter Tryd.func12, Tryd.ntmps12
    go_wp2_with (go_at_call 23; refine (node_any _ _).mono ?_; rintro e w' ⟨rfl, rfl⟩; rw [e1])
    go_ret
    exact ⟨by rw [hr.out]; rfl, (Below.refl _ _).alloc (Nat.le_refl _) _⟩
  have e3 : (f == t) = false := beq_eq_false_iff_ne.2 c3
  by_cases c4 : 0 ≤ a ∧ a ≤ 1099511627776
  case neg =>
    have e4 : inb a 0 1099511627776 = false := Bool.eq_false_iff.2 fun h => c4 (inb_true h)
    have hr : Hid (G.valid ⟨f, t, a, s, ⟨k, o, d, u, v⟩⟩ = false) := Lib.hid (G.bad (fun h => by obtain ⟨h1', h2', h3', h4', h5', h6'⟩ := h; dsimp only at h1' h2' h3' h4' h5' h6'; omega))
    go_enter Tryd.func12, Tryd.ntmps12
    go_wp2_with (first | (go_at_call 23; refine (node_any _ _).mono ?_; rintro e w' ⟨rfl, rfl⟩; first | rw [e1] | rw [e2]) | (go_at_call 24; refine (number_any _ _).mono ?_; rintro e w' ⟨rfl, rfl⟩; rw [e4]))
    go_ret
    exact ⟨by rw [hr.out]; rfl, (Below.refl _ _).alloc (Nat.le_refl _) _⟩
  have e4 : inb a 0 1099511627776 = true := inb_of c4
  by_cases c5 : 0 ≤ s ∧ s ≤ 1099511627776
  case neg =>
    have e5 : inb s 0 1099511627776 = false := Bool.eq_false_iff.2 fun h => c5 (inb_true h)
    have hr : Hid (G.valid ⟨f, t, a, s, ⟨k, o, d, u, v⟩⟩ = false) := Lib.hid (G.bad (fun h => by obtain ⟨h1', h2', h3', h4', h5', h6'⟩ := h; dsimp only at h1' h2' h3' h4' h5' h6'; omega))
    go_enter Tryd.func12, Tryd.ntmps12
    go_wp2_with (first | (go_at_call 23; refine (node_any _ _).mono ?_; rintro e w' ⟨rfl, rfl⟩; first | rw [e1] | rw [e2]) | (go_at_call 24; refine (number_any _ _).mono ?_; rintro e w' ⟨rfl, rfl⟩; first | rw [e4] | rw [e5]))
    go_ret
    exact ⟨by rw [hr.out]; rfl, (Below.refl _ _).alloc (Nat.le_refl _) _⟩
  have e5 : inb s 0 1099511627776 = true := inb_of c5
  by_cases hs : s = 0
  · subst hs
    by_cases hk : k = 0
    case neg =>
      have hkb : (k == 0) = false := beq_eq_false_iff_ne.2 hk
      have hr : Hid (G.valid ⟨f, t, a, 0, ⟨k, o, d, u, v⟩⟩ = false) := Lib.hid (G.bad (fun h => by obtain ⟨h1', h2', h3', h4', h5', h6'⟩ := h; dsimp only at h1' h2' h3' h4' h5' h6'; rcases h6' with ⟨_, e⟩ | ⟨e, _⟩; exact noM_false (by omega) e; exact e rfl))
      go_enter Tryd.func12, Tryd.ntmps12
      go_wp2_with (first | (go_at_call 23; refine (node_any _ _).mono ?_; rintro e w' ⟨rfl, rfl⟩; first | rw [e1] | rw [e2]) | (go_at_call 24; refine (number_any _ _).mono ?_; rintro e w' ⟨rfl, rfl⟩; first | rw [e4] | rw [e5]))
      go_ret
      exact ⟨by rw [hr.out]; rfl, (Below.refl _ _).alloc (Nat.le_refl _) _⟩
    subst hk
    by_cases ho : o = 0
    case neg =>
      have hob : (o == 0) = false := beq_eq_false_iff_ne.2 ho
      have hr : Hid (G.valid ⟨f, t, a, 0, ⟨0, o, d, u, v⟩⟩ = false) := Lib.hid (G.bad (fun h => by obtain ⟨h1', h2', h3', h4', h5', h6'⟩ := h; dsimp only at h1' h2' h3' h4' h5' h6'; rcases h6' with ⟨_, e⟩ | ⟨e, _⟩; exact noM_false (by omega) e; exact e rfl))
      go_enter Tryd.func12, Tryd.ntmps12
      go_wp2_with (first | (go_at_call 23; refine (node_any _ _).mono ?_; rintro e w' ⟨rfl, rfl⟩; first | rw [e1] | rw [e2]) | (go_at_call 24; refine (number_any _ _).mono ?_; rintro e w' ⟨rfl, rfl⟩; first | rw [e4] | rw [e5]))
      go_ret
      exact ⟨by rw [hr.out]; rfl, (Below.refl _ _).alloc (Nat.le_refl _) _⟩
    subst ho
    by_cases hd : d = 0
    case neg =>
      have hdb : (d == 0) = false := beq_eq_false_iff_ne.2 hd
      have hr : Hid (G.valid ⟨f, t, a, 0, ⟨0, 0, d, u, v⟩⟩ = false) := Lib.hid (G.bad (fun h => by obtain ⟨h1', h2', h3', h4', h5', h6'⟩ := h; dsimp only at h1' h2' h3' h4' h5' h6'; rcases h6' with ⟨_, e⟩ | ⟨e, _⟩; exact noM_false (by omega) e; exact e rfl))
      go_enter Tryd.func12, Tryd.ntmps12
      go_wp2_with (first | (go_at_call 23; refine (node_any _ _).mono ?_; rintro e w' ⟨rfl, rfl⟩; first | rw [e1] | rw [e2]) | (go_at_call 24; refine (number_any _ _).mono ?_; rintro e w' ⟨rfl, rfl⟩; first | rw [e4] | rw [e5]))
      go_ret
      exact ⟨by rw [hr.out]; rfl, (Below.refl _ _).alloc (Nat.le_refl _) _⟩
    subst hd
    by_cases hu : u = 0
    case neg =>
      have hub : (u == 0) = false := beq_eq_false_iff_ne.2 hu
      have hr : Hid (G.valid ⟨f, t, a, 0, ⟨0, 0, 0, u, v⟩⟩ = false) := Lib.hid (G.bad (fun h => by obtain ⟨h1', h2', h3', h4', h5', h6'⟩ := h; dsimp only at h1' h2' h3' h4' h5' h6'; rcases h6' with ⟨_, e⟩ | ⟨e, _⟩; exact noM_false (by omega) e; exact e rfl))
      go_enter Tryd.func12, Tryd.ntmps12
      go_wp2_with (first | (go_at_call 23; refine (node_any _ _).mono ?_; rintro e w' ⟨rfl, rfl⟩; first | rw [e1] | rw [e2]) | (go_at_call 24; refine (number_any _ _).mono ?_; rintro e w' ⟨rfl, rfl⟩; first | rw [e4] | rw [e5]))
      go_ret
      exact ⟨by rw [hr.out]; rfl, (Below.refl _ _).alloc (Nat.le_refl _) _⟩
    subst hu
    by_cases hv : v = 0
    case neg =>
      have hvb : (v == 0) = false := beq_eq_false_iff_ne.2 hv
      have hr : Hid (G.valid ⟨f, t, a, 0, ⟨0, 0, 0, 0, v⟩⟩ = false) := Lib.hid (G.bad (fun h => by obtain ⟨h1', h2', h3', h4', h5', h6'⟩ := h; dsimp only at h1' h2' h3' h4' h5' h6'; rcases h6' with ⟨_, e⟩ | ⟨e, _⟩; exact noM_false (by omega) e; exact e rfl))
      go_enter Tryd.func12, Tryd.ntmps12
      go_wp2_with (first | (go_at_call 23; refine (node_any _ _).mono ?_; rintro e w' ⟨rfl, rfl⟩; first | rw [e1] | rw [e2]) | (go_at_call 24; refine (number_any _ _).mono ?_; rintro e w' ⟨rfl, rfl⟩; first | rw [e4] | rw [e5]))
      go_ret
      exact ⟨by rw [hr.out]; rfl, (Below.refl _ _).alloc (Nat.le_refl _) _⟩
    subst hv
    have hr : Hid (G.valid ⟨f, t, a, 0, ⟨0, 0, 0, 0, 0⟩⟩ = true) := Lib.hid (G.of_parts (by dsimp only; exact ⟨c1, c2, c3, c4, c5, .inl ⟨rfl, rfl⟩⟩))
    go_enter Tryd.func12, Tryd.ntmps12
    go_wp2_with (first | (go_at_call 23; refine (node_any _ _).mono ?_; rintro e w' ⟨rfl, rfl⟩; first | rw [e1] | rw [e2]) | (go_at_call 24; refine (number_any _ _).mono ?_; rintro e w' ⟨rfl, rfl⟩; first | rw [e4] | rw [e5]))
    go_ret
    exact ⟨by rw [hr.out]; rfl, (Below.refl _ _).alloc (Nat.le_refl _) _⟩
  · have hsb : (s == 0) = false := beq_eq_false_iff_ne.2 hs
    have HV : Hid (∀ W, Calls Tryd.prog 25 #[.agg #[.int .i64 k, .int .i64 o, .int .i64 d, .int .i64 u, .int .i64 v]] W fun e w' => e = .returned (.bool (M.valid ⟨k, o, d, u, v⟩)) ∧ Below W.heap.size W w') := Lib.hid (valid_any ⟨k, o, d, u, v⟩)
    cases hm : M.valid ⟨k, o, d, u, v⟩
    · rw [hm] at HV
      have hr : Hid (G.valid ⟨f, t, a, s, ⟨k, o, d, u, v⟩⟩ = false) := Lib.hid (G.bad (fun h => by obtain ⟨h1', h2', h3', h4', h5', h6'⟩ := h; dsimp only at h1' h2' h3' h4' h5' h6'; rcases h6' with ⟨e, _⟩ | ⟨_, e⟩; exact hs e; rw [hm] at e; cases e))
      go_enter Tryd.func12, Tryd.ntmps12
      go_wp2_with (first | (go_at_call 23; refine (node_any _ _).mono ?_; rintro e w' ⟨rfl, rfl⟩; first | rw [e1] | rw [e2]) | (go_at_call 24; refine (number_any _ _).mono ?_; rintro e w' ⟨rfl, rfl⟩; first | rw [e4] | rw [e5]) | (go_at_call 25; refine (HV.out _).mono ?_; rintro e w2 ⟨rfl, hb⟩; have HB2 := Lib.hid (B1.out.trans (hb.mono B1.out.size)); clear hb))
      go_ret
      exact ⟨by rw [hr.out]; rfl, HB2.out⟩
    · rw [hm] at HV
      have hr : Hid (G.valid ⟨f, t, a, s, ⟨k, o, d, u, v⟩⟩ = true) := Lib.hid (G.of_parts (by dsimp only; exact ⟨c1, c2, c3, c4, c5, .inr ⟨hs, hm⟩⟩))
      go_enter Tryd.func12, Tryd.ntmps12
      go_wp2_with (first | (go_at_call 23; refine (node_any _ _).mono ?_; rintro e w' ⟨rfl, rfl⟩; first | rw [e1] | rw [e2]) | (go_at_call 24; refine (number_any _ _).mono ?_; rintro e w' ⟨rfl, rfl⟩; first | rw [e4] | rw [e5]) | (go_at_call 25; refine (HV.out _).mono ?_; rintro e w2 ⟨rfl, hb⟩; have HB2 := Lib.hid (B1.out.trans (hb.mono B1.out.size)); clear hb))
      go_ret
      exact ⟨by rw [hr.out]; rfl, HB2.out⟩

set_option maxHeartbeats 2000000 in
theorem refgvalid_any (g : G) (w : World) : Calls Tryd.prog 13 #[g.agg] w fun e w' => e = .returned (.bool g.valid) ∧ Below w.heap.size w w' := by
  obtain ⟨f, t, a, s, k, o, d, u, v⟩ := g
  show Calls Tryd.prog 13 #[.agg #[.int .i64 f, .int .i64 t, .int .i64 a, .int .i64 s, .int .i64 k, .int .i64 o, .int .i64 d, .int .i64 u, .int .i64 v]] w _
  have B1 := Lib.hid (below_alloc (Below.refl w.heap.size w) (.cells #[.int .i64 f, .int .i64 t, .int .i64 a, .int .i64 s, .int .i64 k, .int .i64 o, .int .i64 d, .int .i64 u, .int .i64 v] 26))
  by_cases q1 : f < 0
  case pos =>
    have b1 : decide (f < 0) = true := decide_eq_true q1
    have hr : Hid (G.valid ⟨f, t, a, s, ⟨k, o, d, u, v⟩⟩ = false) := Lib.hid (G.bad (fun h => by obtain ⟨h1', h2', h3', h4', h5', h6'⟩ := h; dsimp only at h1' h2' h3' h4' h5' h6'; omega))
    go_enter Tryd.func13, Tryd.ntmps13
    go_wp2_with (fail)
    go_ret
    exact ⟨by rw [hr.out]; rfl, (Below.refl _ _).alloc (Nat.le_refl _) _⟩
  have b1 : decide (f < 0) = false := decide_eq_false q1
  by_cases q2 : 32 ≤ f
  case pos =>
    have b2 : decide (32 ≤ f) = true := decide_eq_true q2
    have hr : Hid (G.valid ⟨f, t, a, s, ⟨k, o, d, u, v⟩⟩ = false) := Lib.hid (G.bad (fun h => by obtain ⟨h1', h2', h3', h4', h5', h6'⟩ := h; dsimp only at h1' h2' h3' h4' h5' h6'; omega))
    go_enter Tryd.func13, Tryd.ntmps13
    go_wp2_with (fail)
    go_ret
    exact ⟨by rw [hr.out]; rfl, (Below.refl _ _).alloc (Nat.le_refl _) _⟩
  have b2 : decide (32 ≤ f) = false := decide_eq_false q2
  by_cases q3 : t < 0
  case pos =>
    have b3 : decide (t < 0) = true := decide_eq_true q3
    have hr : Hid (G.valid ⟨f, t, a, s, ⟨k, o, d, u, v⟩⟩ = false) := Lib.hid (G.bad (fun h => by obtain ⟨h1', h2', h3', h4', h5', h6'⟩ := h; dsimp only at h1' h2' h3' h4' h5' h6'; omega))
    go_enter Tryd.func13, Tryd.ntmps13
    go_wp2_with (fail)
    go_ret
    exact ⟨by rw [hr.out]; rfl, (Below.refl _ _).alloc (Nat.le_refl _) _⟩
  have b3 : decide (t < 0) = false := decide_eq_false q3
  by_cases q4 : 32 ≤ t
  case pos =>
    have b4 : decide (32 ≤ t) = true := decide_eq_true q4
    have hr : Hid (G.valid ⟨f, t, a, s, ⟨k, o, d, u, v⟩⟩ = false) := Lib.hid (G.bad (fun h => by obtain ⟨h1', h2', h3', h4', h5', h6'⟩ := h; dsimp only at h1' h2' h3' h4' h5' h6'; omega))
    go_enter Tryd.func13, Tryd.ntmps13
    go_wp2_with (fail)
    go_ret
    exact ⟨by rw [hr.out]; rfl, (Below.refl _ _).alloc (Nat.le_refl _) _⟩
  have b4 : decide (32 ≤ t) = false := decide_eq_false q4
  by_cases c3 : f = t
  case pos =>
    subst c3
    have e3 : (f == f) = true := beq_self_eq_true _
    have hr : Hid (G.valid ⟨f, f, a, s, ⟨k, o, d, u, v⟩⟩ = false) := Lib.hid (G.bad (fun h => by obtain ⟨h1', h2', h3', h4', h5', h6'⟩ := h; dsimp only at h1' h2' h3' h4' h5' h6'; omega))
    go_enter Tryd.func13, Tryd.ntmps13
    go_wp2_with (fail)
    go_ret
    exact ⟨by rw [hr.out]; rfl, (Below.refl _ _).alloc (Nat.le_refl _) _⟩
  have e3 : (f == t) = false := beq_eq_false_iff_ne.2 c3
  by_cases q6 : a < 0
  case pos =>
    have b6 : decide (a < 0) = true := decide_eq_true q6
    have hr : Hid (G.valid ⟨f, t, a, s, ⟨k, o, d, u, v⟩⟩ = false) := Lib.hid (G.bad (fun h => by obtain ⟨h1', h2', h3', h4', h5', h6'⟩ := h; dsimp only at h1' h2' h3' h4' h5' h6'; omega))
    go_enter Tryd.func13, Tryd.ntmps13
    go_wp2_with (fail)
    go_ret
    exact ⟨by rw [hr.out]; rfl, (Below.refl _ _).alloc (Nat.le_refl _) _⟩
  have b6 : decide (a < 0) = false := decide_eq_false q6
  by_cases q7 : 1099511627776 < a
  case pos =>
    have b7 : decide (1099511627776 < a) = true := decide_eq_true q7
    have hr : Hid (G.valid ⟨f, t, a, s, ⟨k, o, d, u, v⟩⟩ = false) := Lib.hid (G.bad (fun h => by obtain ⟨h1', h2', h3', h4', h5', h6'⟩ := h; dsimp only at h1' h2' h3' h4' h5' h6'; omega))
    go_enter Tryd.func13, Tryd.ntmps13
    go_wp2_with (fail)
    go_ret
    exact ⟨by rw [hr.out]; rfl, (Below.refl _ _).alloc (Nat.le_refl _) _⟩
  have b7 : decide (1099511627776 < a) = false := decide_eq_false q7
  by_cases q8 : s < 0
  case pos =>
    have b8 : decide (s < 0) = true := decide_eq_true q8
    have hr : Hid (G.valid ⟨f, t, a, s, ⟨k, o, d, u, v⟩⟩ = false) := Lib.hid (G.bad (fun h => by obtain ⟨h1', h2', h3', h4', h5', h6'⟩ := h; dsimp only at h1' h2' h3' h4' h5' h6'; omega))
    go_enter Tryd.func13, Tryd.ntmps13
    go_wp2_with (fail)
    go_ret
    exact ⟨by rw [hr.out]; rfl, (Below.refl _ _).alloc (Nat.le_refl _) _⟩
  have b8 : decide (s < 0) = false := decide_eq_false q8
  by_cases q9 : 1099511627776 < s
  case pos =>
    have b9 : decide (1099511627776 < s) = true := decide_eq_true q9
    have hr : Hid (G.valid ⟨f, t, a, s, ⟨k, o, d, u, v⟩⟩ = false) := Lib.hid (G.bad (fun h => by obtain ⟨h1', h2', h3', h4', h5', h6'⟩ := h; dsimp only at h1' h2' h3' h4' h5' h6'; omega))
    go_enter Tryd.func13, Tryd.ntmps13
    go_wp2_with (fail)
    go_ret
    exact ⟨by rw [hr.out]; rfl, (Below.refl _ _).alloc (Nat.le_refl _) _⟩
  have b9 : decide (1099511627776 < s) = false := decide_eq_false q9
  have c1 : 0 ≤ f ∧ f ≤ 31 := by omega
  have c2 : 0 ≤ t ∧ t ≤ 31 := by omega
  have c4 : 0 ≤ a ∧ a ≤ 1099511627776 := by omega
  have c5 : 0 ≤ s ∧ s ≤ 1099511627776 := by omega
  by_cases hs : s = 0
  · subst hs
    by_cases hk : k = 0
    case neg =>
      have hkb : (k == 0) = false := beq_eq_false_iff_ne.2 hk
      have hr : Hid (G.valid ⟨f, t, a, 0, ⟨k, o, d, u, v⟩⟩ = false) := Lib.hid (G.bad (fun h => by obtain ⟨h1', h2', h3', h4', h5', h6'⟩ := h; dsimp only at h1' h2' h3' h4' h5' h6'; rcases h6' with ⟨_, e⟩ | ⟨e, _⟩; exact noM_false (by omega) e; exact e rfl))
      go_enter Tryd.func13, Tryd.ntmps13
      go_wp2_with (fail)
      go_ret
      exact ⟨by rw [hr.out]; rfl, (Below.refl _ _).alloc (Nat.le_refl _) _⟩
    subst hk
    by_cases ho : o = 0
    case neg =>
      have hob : (o == 0) = false := beq_eq_false_iff_ne.2 ho
      have hr : Hid (G.valid ⟨f, t, a, 0, ⟨0, o, d, u, v⟩⟩ = false) := Lib.hid (G.bad (fun h => by obtain ⟨h1', h2', h3', h4', h5', h6'⟩ := h; dsimp only at h1' h2' h3' h4' h5' h6'; rcases h6' with ⟨_, e⟩ | ⟨e, _⟩; exact noM_false (by omega) e; exact e rfl))
      go_enter Tryd.func13, Tryd.ntmps13
      go_wp2_with (fail)
      go_ret
      exact ⟨by rw [hr.out]; rfl, (Below.refl _ _).alloc (Nat.le_refl _) _⟩
    subst ho
    by_cases hd : d = 0
    case neg =>
      have hdb : (d == 0) = false := beq_eq_false_iff_ne.2 hd
      have hr : Hid (G.valid ⟨f, t, a, 0, ⟨0, 0, d, u, v⟩⟩ = false) := Lib.hid (G.bad (fun h => by obtain ⟨h1', h2', h3', h4', h5', h6'⟩ := h; dsimp only at h1' h2' h3' h4' h5' h6'; rcases h6' with ⟨_, e⟩ | ⟨e, _⟩; exact noM_false (by omega) e; exact e rfl))
      go_enter Tryd.func13, Tryd.ntmps13
      go_wp2_with (fail)
      go_ret
      exact ⟨by rw [hr.out]; rfl, (Below.refl _ _).alloc (Nat.le_refl _) _⟩
    subst hd
    by_cases hu : u = 0
    case neg =>
      have hub : (u == 0) = false := beq_eq_false_iff_ne.2 hu
      have hr : Hid (G.valid ⟨f, t, a, 0, ⟨0, 0, 0, u, v⟩⟩ = false) := Lib.hid (G.bad (fun h => by obtain ⟨h1', h2', h3', h4', h5', h6'⟩ := h; dsimp only at h1' h2' h3' h4' h5' h6'; rcases h6' with ⟨_, e⟩ | ⟨e, _⟩; exact noM_false (by omega) e; exact e rfl))
      go_enter Tryd.func13, Tryd.ntmps13
      go_wp2_with (fail)
      go_ret
      exact ⟨by rw [hr.out]; rfl, (Below.refl _ _).alloc (Nat.le_refl _) _⟩
    subst hu
    by_cases hv : v = 0
    case neg =>
      have hvb : (v == 0) = false := beq_eq_false_iff_ne.2 hv
      have hr : Hid (G.valid ⟨f, t, a, 0, ⟨0, 0, 0, 0, v⟩⟩ = false) := Lib.hid (G.bad (fun h => by obtain ⟨h1', h2', h3', h4', h5', h6'⟩ := h; dsimp only at h1' h2' h3' h4' h5' h6'; rcases h6' with ⟨_, e⟩ | ⟨e, _⟩; exact noM_false (by omega) e; exact e rfl))
      go_enter Tryd.func13, Tryd.ntmps13
      go_wp2_with (fail)
      go_ret
      exact ⟨by rw [hr.out]; rfl, (Below.refl _ _).alloc (Nat.le_refl _) _⟩
    subst hv
    have hr : Hid (G.valid ⟨f, t, a, 0, ⟨0, 0, 0, 0, 0⟩⟩ = true) := Lib.hid (G.of_parts (by dsimp only; exact ⟨c1, c2, c3, c4, c5, .inl ⟨rfl, rfl⟩⟩))
    go_enter Tryd.func13, Tryd.ntmps13
    go_wp2_with (fail)
    go_ret
    exact ⟨by rw [hr.out]; rfl, (Below.refl _ _).alloc (Nat.le_refl _) _⟩
  · have hsb : (s == 0) = false := beq_eq_false_iff_ne.2 hs
    have HV : Hid (∀ W, Calls Tryd.prog 26 #[.agg #[.int .i64 k, .int .i64 o, .int .i64 d, .int .i64 u, .int .i64 v]] W fun e w' => e = .returned (.bool (M.valid ⟨k, o, d, u, v⟩)) ∧ Below W.heap.size W w') := Lib.hid (refvalid_any ⟨k, o, d, u, v⟩)
    cases hm : M.valid ⟨k, o, d, u, v⟩
    · rw [hm] at HV
      have hr : Hid (G.valid ⟨f, t, a, s, ⟨k, o, d, u, v⟩⟩ = false) := Lib.hid (G.bad (fun h => by obtain ⟨h1', h2', h3', h4', h5', h6'⟩ := h; dsimp only at h1' h2' h3' h4' h5' h6'; rcases h6' with ⟨e, _⟩ | ⟨_, e⟩; exact hs e; rw [hm] at e; cases e))
      go_enter Tryd.func13, Tryd.ntmps13
      go_wp2_with (first | (go_at_call 26; refine (HV.out _).mono ?_; rintro e w2 ⟨rfl, hb⟩; have HB2 := Lib.hid (B1.out.trans (hb.mono B1.out.size)); clear hb))
      go_ret
      exact ⟨by rw [hr.out]; rfl, HB2.out⟩
    · rw [hm] at HV
      have hr : Hid (G.valid ⟨f, t, a, s, ⟨k, o, d, u, v⟩⟩ = true) := Lib.hid (G.of_parts (by dsimp only; exact ⟨c1, c2, c3, c4, c5, .inr ⟨hs, hm⟩⟩))
      go_enter Tryd.func13, Tryd.ntmps13
      go_wp2_with (first | (go_at_call 26; refine (HV.out _).mono ?_; rintro e w2 ⟨rfl, hb⟩; have HB2 := Lib.hid (B1.out.trans (hb.mono B1.out.size)); clear hb))
      go_ret
      exact ⟨by rw [hr.out]; rfl, HB2.out⟩

end Go.Proofs.YtobkcedmjeidfaaDoor.gramw
