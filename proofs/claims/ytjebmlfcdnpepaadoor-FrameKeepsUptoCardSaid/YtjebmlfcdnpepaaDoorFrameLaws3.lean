/- The walk of the law FrameHeads. -/
import Derived.Test.YtjebmlfcdnpepaaDoorFramePure2
set_option linter.unusedVariables false
set_option linter.unusedSimpArgs false
namespace Go.Proofs.YtjebmlfcdnpepaaDoor.framel3
open Go.RowKit Go.Shelf Go.Proofs.YtjebmlfcdnpepaaDoorW.PrintWords Go.Proofs.YtjebmlfcdnpepaaDoor.base Go.Proofs.YtjebmlfcdnpepaaDoor.mem Go.Proofs.YtjebmlfcdnpepaaDoor.crcp Go.Proofs.YtjebmlfcdnpepaaDoor.crcw Go.Proofs.YtjebmlfcdnpepaaDoor.samew Go.Proofs.YtjebmlfcdnpepaaDoor.keep Go.Proofs.YtjebmlfcdnpepaaDoor.framep Go.Proofs.YtjebmlfcdnpepaaDoor.framew Go.Proofs.YtjebmlfcdnpepaaDoor.frameit Go.Proofs.YtjebmlfcdnpepaaDoor.framem Go.Proofs.YtjebmlfcdnpepaaDoor.framel Go.Proofs.YtjebmlfcdnpepaaDoor.framea Go.Proofs.YtjebmlfcdnpepaaDoor.framer Go.Proofs.YtjebmlfcdnpepaaDoor.framen

theorem endE (A : Option Addr) (n c : Nat) (xs : List Int) (w : World) (hr : RdB w A n xs) (hn : n ≤ 1099511627776) (ht : Table w) :
    Calls Tryd.prog 17 #[.slice A n c] w fun e w' => e = .returned (.int .i64 (E xs : Nat)) ∧ Below w.heap.size w w' := by
  have := end_any A n c xs w hr (by omega) ht
  rwa [end_E] at this
/-- the answer of frame.All, to be read -/
def RetP (w : World) (ps : List (List Int)) (e : Ending) (w' : World) : Prop := ∃ A1 n1 c1, e = .returned (.slice A1 n1 c1) ∧ n1 ≤ c1 ∧ n1 ≤ 1099511627776 ∧ RdBB w' A1 n1 ps ∧ Below w.heap.size w w'
theorem allP (A : Option Addr) (n c : Nat) (xs : List Int) (w : World) (hr : RdB w A n xs) (hn : n ≤ 1099511627776) (ht : Table w) :
    Calls Tryd.prog 16 #[.slice A n c] w (RetP w (P xs)) := by
  refine (all_any A n c xs w hr hn ht).mono ?_
  rintro e w' ⟨A1, n1, c1, cells, rfl, hov, hrw, hb⟩
  rw [pays_P] at hrw
  have h1 := hov.len
  have h2 := P_len xs.length xs (Nat.le_refl _)
  rw [hrw.len] at h1
  rw [h1, hr.len] at h2
  exact ⟨A1, n1, c1, rfl, own_cap hov, by omega, hov.rd hrw.of (by omega), hb⟩
theorem RdBB.take {w : World} {A : Option Addr} {n : Nat} {xss : List (List Int)} (h : RdBB w A n xss) (k : Nat) (hk : k ≤ n) : RdBB w A k (xss.take k) := by
  refine ⟨by rw [List.length_take, h.1]; omega, Nat.le_trans hk h.2.1, fun h0 => ?_⟩
  obtain ⟨ad, e, hc⟩ := h.2.2 (by omega)
  refine ⟨ad, e, fun j hj => ?_⟩
  obtain ⟨a, m, c, h1, h2, h3⟩ := hc j (by omega)
  refine ⟨a, m, c, h1, h2, ?_⟩
  rw [show (xss.take k).getD j [] = xss.getD j [] from by simp [List.getD_eq_getElem?_getD, List.getElem?_take, hj]]
  exact h3
set_option maxHeartbeats 2000000 in
theorem headsLaw (A : Option Addr) (n c : Nat) (xs : List Int) (cut : Int) (w : World) (hr : RdB w A n xs) (hc : n ≤ c) (hn : n + 1 ≤ 1048576) (hst : -9223372036854775808 ≤ cut ∧ cut ≤ 9223372036854775807) (ht : Table w) :
    Calls Tryd.prog 7 #[.slice A n c, .int .i64 cut] w fun e w' => e = .returned (.bool true) ∧ Below w.heap.size w w' := by
  have HR := Lib.hid hr
  have HT := Lib.hid ht
  have hn' : n ≤ 1048576 := by omega
  have hlen := hr.len
  have HEn := Lib.hid (fun W (h : Below w.heap.size w W) => endE A n c xs W (hr.below h) (by omega) (ht.below h))
  have hEl := E_le xs
  rw [hlen] at hEl
  obtain ⟨E0, hE0⟩ : ∃ E0, E xs = E0 := ⟨_, rfl⟩
  rw [hE0] at HEn hEl
  clear hr ht hn
  by_cases hout : cut < 0 ∨ (n : Int) < cut
  · have hb : (decide (cut < 0) || decide ((n : Int) < cut)) = true := by simpa using hout
    have h0 : decide ((0 : Int) ≤ (E0 : Int)) = true := decide_eq_true (by omega)
    have h1 : decide ((E0 : Int) ≤ (n : Int)) = true := decide_eq_true (by omega)
    go_enter Tryd.func7, Tryd.ntmps7
    go_wp2_with fail
    refine (wakes_any _ HT.out).mono ?_
    rintro e w2 ⟨rfl, hb2⟩
    have B2 := Lib.hid hb2
    have hs2 := hb2.size
    clear hb2
    rcases hout with hc1 | hc1
    · go_wp2_with (first | (go_at_call 17; ((with_reducible refine (HEn.out _ B2.out).mono ?_)); rintro e w3 ⟨rfl, hb3⟩; have B3 := Lib.hid (B2.out.trans (hb3.mono hs2)); have hs3 := B3.out.size; clear hb3) | (go_at_call 17; ((with_reducible refine (HEn.out _ B3.out).mono ?_)); rintro e w4 ⟨rfl, hb4⟩; have B4 := Lib.hid (B3.out.trans (hb4.mono hs3)); clear hb4))
      go_ret
      exact ⟨rfl, B4.out⟩
    · have hc0 : ¬ cut < 0 := by omega
      go_wp2_with (first | (go_at_call 17; ((with_reducible refine (HEn.out _ B2.out).mono ?_)); rintro e w3 ⟨rfl, hb3⟩; have B3 := Lib.hid (B2.out.trans (hb3.mono hs2)); have hs3 := B3.out.size; clear hb3) | (go_at_call 17; ((with_reducible refine (HEn.out _ B3.out).mono ?_)); rintro e w4 ⟨rfl, hb4⟩; have B4 := Lib.hid (B3.out.trans (hb4.mono hs3)); clear hb4))
      go_ret
      exact ⟨rfl, B4.out⟩
  · obtain ⟨k, rfl⟩ := Int.eq_ofNat_of_zero_le (show 0 ≤ cut by omega)
    have hkn : k ≤ n := by omega
    have hki : (k : Int) ≤ (c : Int) := by omega
    have hkc : k ≤ c := by omega
    have hA := fun W (h : Below w.heap.size w W) => HR.out.below h
    have HEk := Lib.hid (fun W (h : Below w.heap.size w W) => endE A k c _ W ((HR.out.below h).take k hkn) (by omega) (HT.out.below h))
    have HAn := Lib.hid (fun W (h : Below w.heap.size w W) => allP A n c xs W (HR.out.below h) (by omega) (HT.out.below h))
    have HAk := Lib.hid (fun W (h : Below w.heap.size w W) => allP A k c _ W ((HR.out.below h).take k hkn) (by omega) (HT.out.below h))
    obtain ⟨hp1, hp2, hp3⟩ := heads xs.length xs k (Nat.le_refl _) (by omega)
    rw [hE0] at hp3
    generalize E (xs.take k) = E1 at HEk hp2 hp3
    generalize P (xs.take k) = P1 at HAk hp1
    generalize P xs = P0 at HAn hp1
    have hpl := hp1.length_le
    have HPT : Hid (P0.take P1.length = P1) := Lib.hid (List.prefix_iff_eq_take.1 hp1).symm
    have q1 : decide ((k : Int) < (E1 : Int)) = false := decide_eq_false (by omega)
    have q2 : decide ((E0 : Int) < (E1 : Int)) = false := decide_eq_false (by omega)
    have hc0 : ¬ ((k : Int) < 0) := by omega
    have hc1 : ¬ ((n : Int) < (k : Int)) := by omega
    unfold RetP at HAn HAk
    clear hA hout hst hp1 hE0
    go_enter Tryd.func7, Tryd.ntmps7
    go_wp2_with fail
    refine (wakes_any _ HT.out).mono ?_
    rintro e w2 ⟨rfl, hb2⟩
    have B2 := Lib.hid hb2.drew
    have hs2 := B2.out.size
    clear hb2
    go_wp2_with fail
    go_region_held3 (fun _ => True) (trivial) (first | (go_at_call 16; ((with_reducible refine (HAn.out _ B2.out).mono ?_)); rintro e w3 ⟨A3, n3, c3, rfl, hc3, hm3, hr3, hb3⟩; have B3 := Lib.hid (B2.out.trans (hb3.mono hs2)); have hs3 := B3.out.size; have HX3 := Lib.hid hr3; clear hb3 hr3) | (go_at_call 16; ((with_reducible refine (HAk.out _ B3.out).mono ?_)); rintro e w4 ⟨A4, n4, c4, rfl, hc4, hm4, hr4, hb4⟩; have B4 := Lib.hid (B3.out.trans (hb4.mono hs3)); have HX4 := Lib.hid (HX3.out.below hb4); have HY4 := Lib.hid hr4; clear hb4 hr4))
    have h3l := HX4.out.1
    have h4l := HY4.out.1
    have h34 : n4 ≤ n3 := by omega
    have HT34 := Lib.hid (RdBB.take HX4.out n4 h34)
    rw [← h4l, HPT.out] at HT34
    rw [h4l] at HT34
    have q0 : decide ((n3 : Int) < (n4 : Int)) = false := decide_eq_false (by omega)
    have q0n : decide (n3 < n4) = false := decide_eq_false (by omega)
    have q1n : decide (k < E1) = false := decide_eq_false (by omega)
    have q2n : decide (E0 < E1) = false := decide_eq_false (by omega)
    have h4c : n4 ≤ c3 := by omega
    clear h3l h4l hpl
    go_wp2_with fail
    have B5 := Lib.hid B4.out.drew
    have hs5 := B5.out.size
    go_region_held3 (fun _ => True) (trivial) (first | (go_at_call 17; ((with_reducible refine (HEk.out _ B5.out).mono ?_)); rintro e w6 ⟨rfl, hb6⟩; have B6 := Lib.hid (B5.out.trans (hb6.mono hs5)); have hs6 := B6.out.size; have HX6 := Lib.hid ((HT34.out.below (Below.refl _ _).drew).below hb6); have HY6 := Lib.hid ((HY4.out.below (Below.refl _ _).drew).below hb6); clear hb6) | (go_at_call 17; ((with_reducible refine (HEn.out _ B6.out).mono ?_)); rintro e w7 ⟨rfl, hb7⟩; have B7 := Lib.hid (B6.out.trans (hb7.mono hs6)); have hs7 := B7.out.size; have HX7 := Lib.hid (HX6.out.below hb7); have HY7 := Lib.hid (HY6.out.below hb7); clear hb7) | (go_at_call 17; ((with_reducible refine (HEk.out _ B7.out).mono ?_)); rintro e w8 ⟨rfl, hb8⟩; have B8 := Lib.hid (B7.out.trans (hb8.mono hs7)); have HX8 := Lib.hid (HX7.out.below hb8); have HY8 := Lib.hid (HY7.out.below hb8); clear hb8))
    go_wp2_with (go_at_call 15; refine (alike_any _ _ _ _ _ _ _ _ _ HX8.out HY8.out).mono ?_; rintro e w9 ⟨rfl, ⟨q9, rfl⟩⟩; rw [eqLL_self])
    go_ret
    exact ⟨rfl, pw_below_drewN B8.out _⟩
end Go.Proofs.YtjebmlfcdnpepaaDoor.framel3
