/- What pack.Size, the reference's Put and the law's wakes compute. -/
import Derived.Test.YtlbhmbbmpmhcjaaPackWalk2
import Derived.Test.YtlbhmbbmpmhcjaaSame
set_option linter.unusedVariables false
set_option linter.unusedSimpArgs false
namespace Go.Proofs.Ytlbhmbbmpmhcjaa.packw
open Go.RowKit Go.Proofs.YtlbhmbbmpmhcjaaW.PrintWords Go.Proofs.Ytlbhmbbmpmhcjaa.base Go.Proofs.Ytlbhmbbmpmhcjaa.mem Go.Proofs.Ytlbhmbbmpmhcjaa.packp Go.Proofs.Ytlbhmbbmpmhcjaa.samew

theorem size_any (x : Int) (w : World) (hx : -9223372036854775808 ≤ x ∧ x ≤ 9223372036854775807) :
    Calls Try.prog 17 #[.int .i64 x] w fun e w' => e = .returned (.int .i64 ((encI x).length : Nat)) ∧ Below w.heap.size w w' := by
  have HI := Lib.hid (litI w _ rfl (0, 0) [x] (Nat.le_of_ble_eq_true rfl))
  have HW : Hid (∀ z ∈ [x], -9223372036854775808 ≤ z ∧ z ≤ 9223372036854775807) := Lib.hid fun z hz => by simp at hz; subst hz; exact hx
  have HB := Lib.hid (below_alloc (Below.refl w.heap.size w) (.cells (nums .i64 [x]).toArray 3))
  clear hx
  go_enter Try.func17, Try.ntmps17
  go_wp2_with fail
  refine (put_any none 0 0 [] _ 1 1 [x] _ (nilB _) HI.out HW.out (by omega)).mono ?_
  rintro e w' ⟨A1, n1, c1, rfl, ho, hb⟩
  have HB2 := Lib.hid (below_then HB.out (by simp) hb)
  have hl := ho.len
  rw [List.nil_append, show encAll [x] = encI x from by simp [encAll]] at hl
  subst hl
  clear ho hb
  go_wp2
  go_ret
  exact ⟨rfl, HB2.out⟩

theorem refput_room {xs ys : List Int} {n n3 u : Nat} {x : Int} (h1 : xs.length = n) (h2 : ys.length = n3) (hx : x ≤ 9223372036854775807) (he : ys ++ enc u = xs ++ encI x) : n3 + 1 ≤ n + 9 := by
  have h5 := congrArg List.length he
  simp only [List.length_append] at h5
  have h4 := (enc_len9 x.toNat (by omega)).2
  have h6 : 1 ≤ (enc u).length := by
    have := enc_ne u
    cases e : enc u with
    | nil => exact absurd e this
    | cons => simp
  unfold encI at h5
  omega
set_option maxHeartbeats 1000000 in
set_option maxRecDepth 100000 in
theorem refput_any (A : Option Addr) (n c : Nat) (xs : List Int) (x : Int) (w : World) (hr : RdB w A n xs) (hx1 : x ≤ 9223372036854775807) (hl : n + 9 ≤ 140737488355328) :
    Calls Try.prog 16 #[.slice A n c, .int .i64 x] w (RetB w (xs ++ encI x)) := by
  have HR := Lib.hid hr
  have R0 := Lib.hid (Below.refl w.heap.size w)
  clear hr
  by_cases hneg : x < 0
  all_goals
    go_enter Try.func16, Try.ntmps16
    go_wp2_with (first | (at_builtin; refine app (w0 := w) (base := w.heap.size) rfl (.tmp 6) (.tmp 7) rfl rfl rfl (OwB.lit0 w _ (Nat.le_refl _)) (HR.out.below (R0.out.alloc (Nat.le_refl _) _)) (R0.out.alloc (Nat.le_refl _) _) ?s2 ?l2 ?_; (case s2 => simp); (case l2 => omega); intro A2 n2 c2 w2 ho hb; have hL1 := ho.len; rw [List.nil_append] at ho; rw [List.nil_append, HR.out.len] at hL1; subst hL1; have HO2 := Lib.hid ho; have HB2 := Lib.hid hb; clear ho hb))
    go_loopw [1, 5] (fun a o wr2 => ∃ (u : Nat) (A3 : Option Addr) (n3 c3 : Nat) (ys : List Int), a = .int .i64 u ∧ u ≤ 9223372036854775807 ∧ o = .slice A3 n3 c3 ∧ Aside0 (ys ++ enc u = xs ++ encI x) ∧ Aside0 (OwB wr2 w.heap.size A3 n3 c3 ys) ∧ Aside0 (Below w.heap.size w wr2)) (fun a _ _ => (intOf a).toNat)
    case atStart => exact ⟨x.toNat, A2, n, c2, _, congrArg (Value.int .i64) (by omega), by omega, rfl, ⟨rfl⟩, ⟨HO2.out⟩, ⟨HB2.out⟩⟩
    case round =>
      obtain ⟨u, A3, n3, c3, ys, rfl, hu, rfl, HE, HO3, HB3⟩ := hrel
      have hroom : n3 + 1 ≤ n + 9 := refput_room HR.out.len HO3.out.len hx1 HE.out
      have hs3 := HB3.out.size
      by_cases hbig : 128 ≤ u
      · have LB : Hid (By [(u : Int) % 128 + 128]) := Lib.hid (By_of _ fun y hy => by simp at hy; omega)
        have LE := Aside0.mk (put_step (show 127 < u by omega) HE.out)
        go_wp2_with (first | (at_builtin; refine app (w0 := w) (base := w.heap.size) rfl (.tmp 13) (.tmp 18) rfl rfl rfl (HO3.out.alloc _) (litB wr (0, 0) [(u : Int) % 128 + 128] (Nat.le_of_ble_eq_true rfl) LB.out) (HB3.out.alloc hs3 _) ?s5 ?l5 ?_; (case s5 => simp; omega); (case l5 => simp; omega); intro A5 n5 c5 w5 ho hb; have HO5 := Lib.hid ho; have HB5 := Lib.hid hb; clear ho hb))
        go_roundw
        case rel => exact ⟨u / 128, A5, n5, c5, _, congrArg (Value.int .i64) (by omega), by omega, rfl, LE, ⟨HO5.out⟩, ⟨HB5.out⟩⟩
        case measure => simp [intOf]; omega
      · have LE : Aside0 (ys ++ [(u : Int)] = xs ++ encI x) := ⟨by have := HE.out; rwa [enc_small u (by omega)] at this⟩
        have LB : Hid (By [(u : Int)]) := Lib.hid (By_of _ fun y hy => by simp at hy; omega)
        go_wp2_with (first | (at_builtin; refine app (w0 := w) (base := w.heap.size) rfl (.tmp 22) (.tmp 25) rfl rfl rfl (HO3.out.alloc _) (litB wr (0, 0) [(u : Int)] (Nat.le_of_ble_eq_true rfl) LB.out) (HB3.out.alloc hs3 _) ?s6 ?l6 ?_; (case s6 => simp; omega); (case l6 => simp; omega); intro A6 n6 c6 w6 ho hb; rw [LE.out] at ho; have HO5 := Lib.hid ho; have HB5 := Lib.hid hb; clear ho hb))
        go_ret
        exact ⟨A6, n6, c6, rfl, HO5.out, HB5.out⟩

theorem wakes_enc : encAll [0, 127, 128, 300] = [0, 127, 128, 1, 172, 2] := by
  have e0 : encI 0 = [0] := enc_small 0 (by decide)
  have e1 : encI 127 = [127] := enc_small 127 (by decide)
  have e2 : encI 128 = [128, 1] := by
    show enc 128 = _
    rw [enc_big 128 (by decide), enc_small _ (by decide)]; rfl
  have e3 : encI 300 = [172, 2] := by
    show enc 300 = _
    rw [enc_big 300 (by decide), enc_small _ (by decide)]; rfl
  simp only [encAll, List.flatMap_cons, List.flatMap_nil, e0, e1, e2, e3]
  rfl
set_option maxHeartbeats 1000000 in
theorem wakes_any (w : World) :
    Calls Try.prog 11 #[] w fun e w' => e = .returned (.bool true) ∧ Below w.heap.size w w' := by
  have H1 := Lib.hid (litB w (0, 0) [172, 2, 7] (Nat.le_of_ble_eq_true rfl) (By_of _ (by decide)))
  have B1 := Lib.hid (below_alloc (Below.refl w.heap.size w) (.cells (nums .u8 [172, 2, 7]).toArray 5))
  have hd : dec 0 [172, 2, 7] = (300, 2) := by decide +kernel
  go_enter Try.func11, Try.ntmps11
  go_wp2_with fail
  refine (take_any _ _ _ _ _ H1.out).mono ?_
  rintro e w' ⟨rfl, rfl⟩
  rw [hd]
  have H2 := Lib.hid (litI (w.alloc (.cells (nums .u8 [172, 2, 7]).toArray 5)) (w.heap.size + 1) (by simp) (0, 0) [0, 127, 128, 300] (Nat.le_of_ble_eq_true rfl))
  have B2 := Lib.hid (B1.out.alloc (by simp) (.cells (nums .i64 [0, 127, 128, 300]).toArray 3))
  have HW : Hid (∀ z ∈ [(0 : Int), 127, 128, 300], -9223372036854775808 ≤ z ∧ z ≤ 9223372036854775807) := Lib.hid (by decide)
  go_wp2_with fail
  refine (put_any none 0 0 [] _ 4 4 [0, 127, 128, 300] _ (nilB _) H2.out HW.out (by omega)).mono ?_
  rintro e w' ⟨A1, n1, c1, rfl, ho, hb⟩
  have B3 := Lib.hid (B2.out.trans (hb.mono (by simp; omega)))
  rw [List.nil_append, wakes_enc] at ho
  have H3 := Lib.hid (ho.rd.below (below_alloc (Below.refl _ _) (.cells (nums .u8 [0, 127, 128, 1, 172, 2]).toArray 5)))
  have H4 := Lib.hid (litB w' (0, 0) [0, 127, 128, 1, 172, 2] (Nat.le_of_ble_eq_true rfl) (By_of _ (by decide)))
  have B4 := Lib.hid (B3.out.alloc B3.out.size (.cells (nums .u8 [0, 127, 128, 1, 172, 2]).toArray 5))
  clear ho hb
  go_wp2_with fail
  refine (same_any _ _ _ _ _ _ _ _ _ H3.out H4.out).mono ?_
  rintro e w'' ⟨rfl, ⟨q, rfl⟩⟩
  rw [eqL_self]
  go_wp2
  go_ret
  exact ⟨rfl, pw_below_drewN B4.out _⟩
end Go.Proofs.Ytlbhmbbmpmhcjaa.packw
