/- What the reference's Put computes. -/
import Derived.Test.YtobkcedmjeidfaaDoorPackWalk2
set_option linter.unusedVariables false
set_option linter.unusedSimpArgs false
namespace Go.Proofs.YtobkcedmjeidfaaDoor.packw
open Go.RowKit Go.Proofs.YtobkcedmjeidfaaDoorW.PrintWords Go.Proofs.YtobkcedmjeidfaaDoor.base Go.Proofs.YtobkcedmjeidfaaDoor.mem Go.Proofs.YtobkcedmjeidfaaDoor.packp

theorem refput_room {xs ys : List Int} {n n3 u : Nat} {x : Int} (h1 : xs.length = n) (h2 : ys.length = n3) (hx : x ≤ 9223372036854775807) (he : ys ++ enc u = xs ++ encI x) : n3 + 1 ≤ n + 9 := by
  have h5 := congrArg List.length he
  simp only [List.length_append] at h5
  have h4 := (enc_len9 x.toNat (by omega)).2
  have h6 : 1 ≤ (enc u).length := by
    have := enc_ne u
    cases e : enc u with
    | nil => exact absurd e this
    | cons => simp
  unfold encI at h5
  omega
set_option maxHeartbeats 1000000 in
set_option maxRecDepth 100000 in
theorem refput_any (A : Option Addr) (n c : Nat) (xs : List Int) (x : Int) (w : World) (hr : RdB w A n xs) (hx1 : x ≤ 9223372036854775807) (hl : n + 9 ≤ 140737488355328) :
    Calls Tryd.prog 29 #[.slice A n c, .int .i64 x] w (RetB w (xs ++ encI x)) := by
  have HR := Lib.hid hr
  have R0 := Lib.hid (Below.refl w.heap.size w)
  clear hr
  by_cases hneg : x < 0
  all_goals
    go_enter Tryd.func29, Tryd.ntmps29
    go_wp2_with (first | (at_builtin; refine app (w0 := w) (base := w.heap.size) rfl (.tmp 6) (.tmp 7) rfl rfl rfl (OwB.lit0 w _ (Nat.le_refl _)) (HR.out.below (R0.out.alloc (Nat.le_refl _) _)) (R0.out.alloc (Nat.le_refl _) _) ?s2 ?l2 ?_; (case s2 => simp); (case l2 => omega); intro A2 n2 c2 w2 ho hb; have hL1 := ho.len; rw [List.nil_append] at ho; rw [List.nil_append, HR.out.len] at hL1; subst hL1; have HO2 := Lib.hid ho; have HB2 := Lib.hid hb; clear ho hb))
    go_loopw [1, 5] (fun a o wr2 => ∃ (u : Nat) (A3 : Option Addr) (n3 c3 : Nat) (ys : List Int), a = .int .i64 u ∧ u ≤ 9223372036854775807 ∧ o = .slice A3 n3 c3 ∧ Aside0 (ys ++ enc u = xs ++ encI x) ∧ Aside0 (OwB wr2 w.heap.size A3 n3 c3 ys) ∧ Aside0 (Below w.heap.size w wr2)) (fun a _ _ => (intOf a).toNat)
    case atStart => exact ⟨x.toNat, A2, n, c2, _, congrArg (Value.int .i64) (by omega), by omega, rfl, ⟨rfl⟩, ⟨HO2.out⟩, ⟨HB2.out⟩⟩
    case round =>
      obtain ⟨u, A3, n3, c3, ys, rfl, hu, rfl, HE, HO3, HB3⟩ := hrel
      have hroom : n3 + 1 ≤ n + 9 := refput_room HR.out.len HO3.out.len hx1 HE.out
      have hs3 := HB3.out.size
      by_cases hbig : 128 ≤ u
      · have LB : Hid (By [(u : Int) % 128 + 128]) := Lib.hid (By_of _ fun y hy => by simp at hy; omega)
        have LE := Aside0.mk (put_step (show 127 < u by omega) HE.out)
        go_wp2_with (first | (at_builtin; refine app (w0 := w) (base := w.heap.size) rfl (.tmp 13) (.tmp 18) rfl rfl rfl (HO3.out.alloc _) (litB wr (0, 0) [(u : Int) % 128 + 128] (Nat.le_of_ble_eq_true rfl) LB.out) (HB3.out.alloc hs3 _) ?s5 ?l5 ?_; (case s5 => simp; omega); (case l5 => simp; omega); intro A5 n5 c5 w5 ho hb; have HO5 := Lib.hid ho; have HB5 := Lib.hid hb; clear ho hb))
        go_roundw
        case rel => exact ⟨u / 128, A5, n5, c5, _, congrArg (Value.int .i64) (by omega), by omega, rfl, LE, ⟨HO5.out⟩, ⟨HB5.out⟩⟩
        case measure => simp [intOf]; omega
      · have LE : Aside0 (ys ++ [(u : Int)] = xs ++ encI x) := ⟨by have := HE.out; rwa [enc_small u (by omega)] at this⟩
        have LB : Hid (By [(u : Int)]) := Lib.hid (By_of _ fun y hy => by simp at hy; omega)
        go_wp2_with (first | (at_builtin; refine app (w0 := w) (base := w.heap.size) rfl (.tmp 22) (.tmp 25) rfl rfl rfl (HO3.out.alloc _) (litB wr (0, 0) [(u : Int)] (Nat.le_of_ble_eq_true rfl) LB.out) (HB3.out.alloc hs3 _) ?s6 ?l6 ?_; (case s6 => simp; omega); (case l6 => simp; omega); intro A6 n6 c6 w6 ho hb; rw [LE.out] at ho; have HO5 := Lib.hid ho; have HB5 := Lib.hid hb; clear ho hb))
        go_ret
        exact ⟨A6, n6, c6, rfl, HO5.out, HB5.out⟩

end Go.Proofs.YtobkcedmjeidfaaDoor.packw
