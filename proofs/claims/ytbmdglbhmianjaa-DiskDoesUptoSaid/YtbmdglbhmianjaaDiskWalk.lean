/- What the disk's small methods compute. -/
import Derived.Test.YtbmdglbhmianjaaDiskRep
import Derived.Test.YtbmdglbhmianjaaSame
import Derived.Deep.RegionHeld3
set_option linter.unusedVariables false
set_option linter.unusedSimpArgs false
namespace Go.Proofs.Ytbmdglbhmianjaa.diskw
open Go.RowKit Go.Proofs.YtbmdglbhmianjaaW.PrintWords Go.Proofs.Ytbmdglbhmianjaa.base Go.Proofs.Ytbmdglbhmianjaa.mem Go.Proofs.Ytbmdglbhmianjaa.keep Go.Proofs.Ytbmdglbhmianjaa.diskp Go.Proofs.Ytbmdglbhmianjaa.diskr

section
variable {w : World} {base p : Nat} {cs : Nat → Sl} {d : D}
theorem ready_any (h : DAt w base p cs d) (f : Int) : Calls Try.prog 27 #[.pointer (some ⟨p, 0, none⟩), .int .i64 f] w fun e w' => e = .returned (.int .i64 (rdy d f)) ∧ w = w' := by
  have e4 := h.cells.2.2.2.2.1
  have HR : Hid (rdy d f = if f < 0 ∨ 1 < f then 1 else if d.off then 40 else 0) := Lib.hid rfl
  clear h
  by_cases hf : f < 0
  · have HR := Lib.hid (HR.out.trans (if_pos (.inl hf)))
    go_enter Try.func27, Try.ntmps27
    go_wp2
    go_ret
    exact ⟨by rw [HR.out]; rfl, rfl⟩
  by_cases hf1 : 1 < f
  · have HR := Lib.hid (HR.out.trans (if_pos (.inr hf1)))
    go_enter Try.func27, Try.ntmps27
    go_wp2
    go_ret
    exact ⟨by rw [HR.out]; rfl, rfl⟩
  have HR := Lib.hid (HR.out.trans (if_neg (fun e => e.elim hf hf1)))
  cases ho : d.off
  · rw [ho] at e4 HR
    have HR := HR
    clear ho
    go_enter Try.func27, Try.ntmps27
    go_wp2
    go_ret
    exact ⟨by rw [HR.out]; rfl, rfl⟩
  · rw [ho] at e4 HR
    have HR := HR
    clear ho
    go_enter Try.func27, Try.ntmps27
    go_wp2
    go_ret
    exact ⟨by rw [HR.out]; rfl, rfl⟩
theorem raw_any (h : DAt w base p cs d) (hn : 0 ≤ d.n ∧ d.n ≤ 4611686018427387904) (ha : 0 ≤ d.a ∧ d.a ≤ 9223372036854775807) : Calls Try.prog 28 #[.pointer (some ⟨p, 0, none⟩)] w fun e w' => e = .returned (.bool (rawD d).2) ∧ DAt w' base p cs (rawD d).1 ∧ DStep w base p cs w' cs := by
  obtain ⟨_, _, _, _, _, e5, e6, _⟩ := h.cells
  have f5 := h.free 5
  have f6 := h.free 6
  have H := Lib.hid h
  have h5 := h.scal 5 (.int .i64 (d.n + 1)) (d' := ⟨d.b, d.off, d.n + 1, d.a, d.k⟩) rfl rfl
  have H5 := Lib.hid h5
  have S5 := Lib.hid (DStep.store h 5 (.int .i64 (d.n + 1)))
  have h6 := h5.scal 6 (.int .i64 (d.a - 1)) (d' := ⟨d.b, d.off, d.n + 1, d.a - 1, d.k⟩) rfl rfl
  have H6 := Lib.hid h6
  have S6 := Lib.hid (S5.out.trans (DStep.store h5 6 (.int .i64 (d.a - 1))))
  obtain ⟨hn0, hn1⟩ := hn
  obtain ⟨ha0, ha1⟩ := ha
  have HR0 : Hid (d.a = 0 → rawD d = (⟨d.b, d.off, d.n + 1, d.a, d.k⟩, false)) := Lib.hid fun e => if_pos e
  have HR1 : Hid (d.a ≠ 0 → rawD d = (⟨d.b, d.off, d.n + 1, d.a - 1, d.k⟩, d.a - 1 == 0)) := Lib.hid fun e => if_neg e
  clear h h5 h6
  generalize d.n = n at *
  generalize d.a = a at *
  by_cases h0 : a = 0
  · have HR := Lib.hid (HR0.out h0)
    have h0b : (a == 0) = true := by simp [h0]
    clear h0
    go_enter Try.func28, Try.ntmps28
    go_wp2
    go_ret
    exact ⟨by rw [HR.out]; rfl, by rw [HR.out]; exact H5.out, S5.out⟩
  · have HR := Lib.hid (HR1.out h0)
    have h0b : (a == 0) = false := by simp [h0]
    clear h0
    go_enter Try.func28, Try.ntmps28
    go_wp2
    go_ret
    exact ⟨by rw [HR.out]; rfl, by rw [HR.out]; exact H6.out, S6.out⟩
theorem on_any (h : DAt w base p cs d) : Calls Try.prog 21 #[.pointer (some ⟨p, 0, none⟩)] w fun e w' => e = .returned (.tuple #[]) ∧ DAt w' base p cs (onD d) ∧ DStep w base p cs w' cs := by
  have e4 := h.cells.2.2.2.2.1
  have f4 := h.free 4
  have H4 := Lib.hid (h.scal 4 (.bool false) (d' := onD d) rfl rfl)
  have S4 := Lib.hid (DStep.store h 4 (.bool false))
  clear h
  go_enter Try.func21, Try.ntmps21
  go_wp2
  exact bodyPost_end (results_none rfl _ _ _) rfl ⟨rfl, H4.out, S4.out⟩
theorem down_any (h : DAt w base p cs d) : Calls Try.prog 17 #[.pointer (some ⟨p, 0, none⟩)] w fun e w' => e = .returned (.bool d.off) ∧ w = w' := by
  have e4 := h.cells.2.2.2.2.1
  clear h
  generalize d.off = b at *
  go_enter Try.func17, Try.ntmps17
  go_wp2
  go_ret
  exact ⟨rfl, rfl⟩
theorem writes_any (h : DAt w base p cs d) : Calls Try.prog 18 #[.pointer (some ⟨p, 0, none⟩)] w fun e w' => e = .returned (.int .i64 d.n) ∧ w = w' := by
  have e5 := h.cells.2.2.2.2.2.1
  clear h
  generalize d.n = n at *
  go_enter Try.func18, Try.ntmps18
  go_wp2
  go_ret
  exact ⟨rfl, rfl⟩
theorem arm_any (h : DAt w base p cs d) (n k : Int) (hn : -9223372036854775808 ≤ n ∧ n ≤ 9223372036854775807) : Calls Try.prog 16 #[.pointer (some ⟨p, 0, none⟩), .int .i64 n, .int .i64 k] w fun e w' => e = .returned (.tuple #[]) ∧ DAt w' base p cs (armD d n k) ∧ DStep w base p cs w' cs := by
  obtain ⟨_, _, _, _, _, _, e6, e7⟩ := h.cells
  have f6 := h.free 6
  have f7 := h.free 7
  have h6 := h.scal 6 (.int .i64 (max n 0)) (d' := ⟨d.b, d.off, d.n, max n 0, d.k⟩) rfl rfl
  have S6 := Lib.hid (DStep.store h 6 (.int .i64 (max n 0)))
  have H7 := Lib.hid (h6.scal 7 (.int .i64 k) (d' := armD d n k) rfl rfl)
  have S7 := Lib.hid (S6.out.trans (DStep.store h6 7 (.int .i64 k)))
  clear h h6
  by_cases h0 : n < 0
  · have hm : max n 0 = 0 := by omega
    rw [hm] at H7 S7
    clear hm S6
    go_enter Try.func16, Try.ntmps16
    go_wp2
    exact bodyPost_end (results_none rfl _ _ _) rfl ⟨rfl, H7.out, S7.out⟩
  · have hm : max n 0 = n := by omega
    rw [hm] at H7 S7
    clear hm S6
    go_enter Try.func16, Try.ntmps16
    go_wp2
    exact bodyPost_end (results_none rfl _ _ _) rfl ⟨rfl, H7.out, S7.out⟩
end
end Go.Proofs.Ytbmdglbhmianjaa.diskw
