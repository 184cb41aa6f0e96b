/- What frame.word and frame.first compute. -/
import Derived.Test.YtjebmlfcdnpepaaDoorFramePure
import Derived.Test.YtjebmlfcdnpepaaDoorSame
import Derived.Test.YtjebmlfcdnpepaaDoorMem
import Derived.Deep.RegionHeld3
set_option linter.unusedVariables false
set_option linter.unusedSimpArgs false
namespace Go.Proofs.YtjebmlfcdnpepaaDoor.framew
open Go.RowKit Go.Proofs.YtjebmlfcdnpepaaDoorW.PrintWords Go.Proofs.YtjebmlfcdnpepaaDoor.base Go.Proofs.YtjebmlfcdnpepaaDoor.mem Go.Proofs.YtjebmlfcdnpepaaDoor.crcp Go.Proofs.YtjebmlfcdnpepaaDoor.crcw Go.Proofs.YtjebmlfcdnpepaaDoor.samew Go.Proofs.YtjebmlfcdnpepaaDoor.framep

theorem word_any (A : Option Addr) (n c : Nat) (xs : List Int) (w : World) (hr : RdB w A n xs) (hn : 4 ≤ n) :
    Calls Tryd.prog 28 #[.slice A n c] w fun e w' => e = .returned (.int .u32 (w4 xs)) ∧ ∃ q, w' = w.drewN q := by
  obtain ⟨ad, e0, h0⟩ := hr.at_ 0 (by omega)
  subst e0
  obtain ⟨ad1, e1, h1⟩ := hr.at_ 1 (by omega)
  obtain ⟨ad2, e2, h2⟩ := hr.at_ 2 (by omega)
  obtain ⟨ad3, e3, h3⟩ := hr.at_ 3 (by omega)
  injection e1 with e1
  injection e2 with e2
  injection e3 with e3
  subst e1 e2 e3
  have b0 := By.getD hr.2 0
  have b1 := By.getD hr.2 1
  have b2 := By.getD hr.2 2
  have b3 := By.getD hr.2 3
  have HE : Hid (w4 xs = xs.getD 0 0 + xs.getD 1 0 * 256 + xs.getD 2 0 * 65536 + xs.getD 3 0 * 16777216) := Lib.hid rfl
  generalize xs.getD 0 0 = x0 at h0 b0 HE
  generalize xs.getD 1 0 = x1 at h1 b1 HE
  generalize xs.getD 2 0 = x2 at h2 b2 HE
  generalize xs.getD 3 0 = x3 at h3 b3 HE
  have hs : ad.spot = none := by
    have := World.cell?_spot h0
    simpa [Addr.add] using this
  obtain ⟨b, off, sp⟩ := ad
  subst hs
  have ap : ∀ k, (⟨b, off, none⟩ : Addr).add k = ⟨b, off + k, none⟩ := fun k => by unfold Addr.add; split <;> simp_all
  rw [ap] at h0 h1 h2 h3
  have l0 : 0 < n := by omega
  have l1 : 1 < n := by omega
  have l2 : 2 < n := by omega
  have l3 : 3 < n := by omega
  have h0 : w.cell? ⟨b, off, none⟩ = some (.int .u8 x0) := h0
  clear hr ap
  go_enter Tryd.func28, Tryd.ntmps28
  go_wp2
  go_region
  go_wp2
  go_ret
  exact ⟨by rw [HE.out, ← w4_bits b0 b1 b2 b3]; rfl, _, rfl⟩
set_option maxHeartbeats 1000000 in
theorem first_any (A : Option Addr) (n c : Nat) (xs : List Int) (w : World) (hr : RdB w A n xs) (hc : n ≤ c) (ht : Table w) :
    Calls Tryd.prog 25 #[.slice A n c] w fun e w' => e = .returned (.int .i64 (firstN xs : Nat)) ∧ Below w.heap.size w w' := by
  have HR := Lib.hid hr
  have HT := Lib.hid ht
  have hlen := hr.len
  have hmax := hr.max
  have hU := w4_range hr.2
  have hU4 := w4_range (hr.2.drop 4)
  clear hr ht
  by_cases h8 : n < 8
  · have HF : Hid (firstN xs = 0) := Lib.hid (by unfold firstN; rw [if_pos (by omega)])
    go_enter Tryd.func25, Tryd.ntmps25
    go_wp2
    go_ret
    exact ⟨by rw [HF.out]; rfl, Below.refl _ _⟩
  have HW := Lib.hid (word_any A n c xs w HR.out (by omega))
  have HFdef : Hid (firstN xs = if 1048576 < (w4 xs).toNat ∨ xs.length - 8 < (w4 xs).toNat ∨ parts 0 [xs.take 4, (xs.drop 8).take (w4 xs).toNat] ≠ w4 (xs.drop 4) then 0 else 8 + (w4 xs).toNat) := Lib.hid (by unfold firstN; rw [if_neg (by omega)])
  obtain ⟨v, hv⟩ := Int.eq_ofNat_of_zero_le hU.1
  have hv1 : v ≤ 4294967295 := by have := hU.2; omega
  rw [hv] at HW HFdef
  have HFdef : Hid (firstN xs = if 1048576 < v ∨ n - 8 < v ∨ parts 0 [xs.take 4, (xs.drop 8).take v] ≠ w4 (xs.drop 4) then 0 else 8 + v) := Lib.hid (by rw [HFdef.out, hlen]; rfl)
  clear hv hU
  by_cases hbig : 1048576 < v
  · have HF : Hid (firstN xs = 0) := Lib.hid (by rw [HFdef.out, if_pos (.inl hbig)])
    have hb : decide ((1048576 : Int) < (v : Int)) = true := decide_eq_true (by omega)
    have hbn : decide (1048576 < v) = true := decide_eq_true hbig
    go_enter Tryd.func25, Tryd.ntmps25
    go_wp2_with fail
    refine HW.out.mono ?_
    rintro e w1 ⟨rfl, q, rfl⟩
    go_wp2_with fail
    go_quiet (fail)
    go_wp2
    go_ret
    exact ⟨by rw [HF.out]; rfl, pw_below_drewN (pw_below_drewN (Below.refl _ _) _) _⟩
  by_cases hlong : n - 8 < v
  · have HF : Hid (firstN xs = 0) := Lib.hid (by rw [HFdef.out, if_pos (.inr (.inl hlong))])
    have hb : decide ((1048576 : Int) < (v : Int)) = false := decide_eq_false (by omega)
    have hbn : decide (1048576 < v) = false := decide_eq_false hbig
    have hb2 : decide (((n : Int) - 8) < (v : Int)) = true := decide_eq_true (by omega)
    go_enter Tryd.func25, Tryd.ntmps25
    go_wp2_with fail
    refine HW.out.mono ?_
    rintro e w1 ⟨rfl, q, rfl⟩
    go_wp2_with fail
    go_quiet (fail)
    go_wp2
    go_ret
    exact ⟨by rw [HF.out]; rfl, pw_below_drewN (pw_below_drewN (Below.refl _ _) _) _⟩
  have hb : decide ((1048576 : Int) < (v : Int)) = false := decide_eq_false (by omega)
  have hbn : decide (1048576 < v) = false := decide_eq_false hbig
  have hb2 : decide (((n : Int) - 8) < (v : Int)) = false := decide_eq_false (by omega)
  obtain ⟨A8, n8, c8, hcut8, a1, a2, a3, hrd8⟩ := cutLH A n c 8 (8 + v) (by omega) (by omega) hc
  obtain ⟨A4, n4, c4, hcut4, d1, d2, d3, hrd4⟩ := cutL A n c 4 (by omega) hc
  have e8 : ((8 + v : Nat) : Int) = 8 + (v : Int) := by omega
  have hcut8 : ∀ W : World, (Instr.slice 22 (.slice A n c) (some (.int .i64 8)) (some (.int .i64 (8 + (v : Int)))) none).run Tryd.prog W = .ok (.slice A8 n8 c8) W := fun W => by have := hcut8 W; rw [e8] at this; exact this
  have hcut4 : ∀ W : World, (Instr.slice 22 (.slice A n c) (some (.int .i64 4)) none none).run Tryd.prog W = .ok (.slice A4 n4 c4) W := hcut4
  have h4c : 4 ≤ c := by omega
  have h4i : (4 : Int) ≤ (c : Int) := by omega
  have hwd : v ≤ 9223372036854775807 := by omega
  go_enter Tryd.func25, Tryd.ntmps25
  go_wp2_with fail
  refine HW.out.mono ?_
  rintro e w1 ⟨rfl, q, rfl⟩
  go_wp2_with fail
  have hw1 : IntKind.i64.wrap (v : Int) = v := by rw [IntKind.wrap_i64]; omega
  have hw2 : IntKind.i64.wrap ((n : Int) - 8) = (n : Int) - 8 := by rw [IntKind.wrap_i64]; omega
  have hw3 : IntKind.i64.wrap (8 + (v : Int)) = 8 + (v : Int) := by rw [IntKind.wrap_i64]; omega
  have RR : Hid (∀ W : World, W.heap.size = w.heap.size → RdB W A n xs → RdBB (W.alloc (.cells #[.slice A 4 c, .slice A8 n8 c8] 22)) (some ⟨w.heap.size, 0, none⟩) 2 [xs.take 4, (xs.drop 8).take v]) := Lib.hid fun W hW h => by
    have h1 := h.take 4 (by omega)
    have h2 := hrd8 W xs h
    have e : (xs.take (8 + v)).drop 8 = (xs.drop 8).take v := by rw [List.drop_take]; congr 1; omega
    rw [e] at h2
    have := rows2 h1 h4c h2 a3 22
    rw [hW] at this
    exact this
  have RA : Hid (∀ q, RdB (w.drewN q).drew A n xs ∧ Table (w.drewN q).drew) := Lib.hid fun q => ⟨(HR.out.drawn q).below (Below.refl _ _).drew, (HT.out.below (pw_below_drewN (Below.refl _ _) q)).below (Below.refl _ _).drew⟩
  have BA : Hid (∀ q, Below w.heap.size w ((w.drewN q).drew.alloc (.cells #[.slice A 4 c, .slice A8 n8 c8] 22))) := Lib.hid fun q => ((pw_below_drewN (Below.refl w.heap.size w) q).drew).alloc (by simp) _
  have HU4 := Lib.hid hU4
  generalize hps : parts 0 [xs.take 4, (xs.drop 8).take v] = ps at HFdef
  have HPS := Lib.hid hps
  clear hps hU4
  go_region_held3 (fun _ => True) (trivial) (first | (go_at_call 19; refine (parts_any _ _ _ _ _ (RR.out _ (by simp) (RA.out _).1) (((RA.out _).2).below (below_alloc (Below.refl _ _) _))).mono ?_; rintro e w5 ⟨rfl, rfl⟩; rw [HPS.out]) | (go_at_call 28; refine (word_any _ _ _ _ _ (hrd4 _ _ (((RA.out _).1).below (below_alloc (Below.refl _ _) _))) (by omega)).mono ?_; rintro e w6 ⟨rfl, q6, rfl⟩))
  clear hw1 hw2 hw3
  have hBfin := Lib.hid (pw_below_drewN (pw_below_drewN (Below.refl w.heap.size w) (q + 1) |>.alloc (by simp) (.cells #[.slice A 4 c, .slice A8 n8 c8] 22)) q6)
  obtain ⟨z, hz⟩ : ∃ z, w4 (xs.drop 4) = z := ⟨_, rfl⟩
  rw [hz] at HFdef ⊢
  by_cases he : ps = z
  · have HF : Hid (firstN xs = 8 + v) := Lib.hid (by rw [HFdef.out, if_neg (by intro h; rcases h with h | h | h; exact hbig h; exact hlong h; exact h he)])
    have hne : (ps != z) = false := by simpa using he
    clear he
    go_wp2
    go_ret
    exact ⟨by rw [HF.out]; exact congrArg (fun t => Ending.returned (.int .i64 t)) (by omega), hBfin.out⟩
  · have HF : Hid (firstN xs = 0) := Lib.hid (by rw [HFdef.out, if_pos (.inr (.inr he))])
    have hne : (ps != z) = true := by simpa using he
    clear he
    go_wp2
    go_ret
    exact ⟨by rw [HF.out]; rfl, hBfin.out⟩
end Go.Proofs.YtjebmlfcdnpepaaDoor.framew
