/- What the reference's Put of datagrams computes. -/
import Derived.Test.YtobkcedmjeidfaaDoorGramWalk2
set_option linter.unusedVariables false
set_option linter.unusedSimpArgs false
namespace Go.Proofs.YtobkcedmjeidfaaDoor.gramw
open Go.RowKit Go.Proofs.YtobkcedmjeidfaaDoorW.PrintWords Go.Proofs.YtobkcedmjeidfaaDoor.base Go.Proofs.YtobkcedmjeidfaaDoor.mem Go.Proofs.YtobkcedmjeidfaaDoor.packp Go.Proofs.YtobkcedmjeidfaaDoor.packw Go.Proofs.YtobkcedmjeidfaaDoor.samew Go.Proofs.YtobkcedmjeidfaaDoor.wirep Go.Proofs.YtobkcedmjeidfaaDoor.wirew Go.Proofs.YtobkcedmjeidfaaDoor.gramp

set_option maxHeartbeats 1000000 in
theorem refgput_any (A : Option Addr) (n c : Nat) (xs : List Int) (g : G) (w : World) (hr : RdB w A n xs) (hg : g.I) (hl : n + 81 ≤ 140737488355328) :
    Calls Tryd.prog 16 #[.slice A n c, g.agg] w (RetB w (xs ++ g.enc)) := by
  have HR := Lib.hid hr
  have HV := Lib.hid (refgvalid_any g)
  have hb4 : (g.f ≤ 9223372036854775807 ∧ g.t ≤ 9223372036854775807) ∧ g.a ≤ 9223372036854775807 ∧ g.s ≤ 9223372036854775807 := by
    obtain ⟨h1, h2, h3, h4, _⟩ := hg
    unfold i64 at h1 h2 h3 h4
    omega
  have hmI := hg.2.2.2.2
  have HE0 : Hid (g.valid = true → g.s = 0 → g.enc = encAll [g.f, g.t, g.a, g.s]) := Lib.hid G.enc_bare
  have HE1 : Hid (g.valid = true → g.s ≠ 0 → g.enc = encAll [g.f, g.t, g.a, g.s] ++ g.m.enc) := Lib.hid G.enc_told
  have HEN : Hid (g.valid = false → g.enc = []) := Lib.hid G.enc_none
  have HPS : Hid (g.valid = true → 0 ≤ g.s) := Lib.hid (fun h => (G.parts h).2.2.2.2.1.1)
  have PM := Lib.hid (fun W A c ys n (h : RdB W A n ys) (hl : n + 45 ≤ 140737488355328) => refwput_any A n c ys g.m W h hmI hl)
  clear hr
  obtain ⟨f, t, a, s, k, o, d, u, v⟩ := g
  obtain ⟨⟨hf, ht⟩, ha, hs⟩ := hb4
  dsimp only at hf ht ha hs HE0 HE1 HPS
  have HV : Hid (∀ W, Calls Tryd.prog 13 #[.agg #[.int .i64 f, .int .i64 t, .int .i64 a, .int .i64 s, .int .i64 k, .int .i64 o, .int .i64 d, .int .i64 u, .int .i64 v]] W fun e w' => e = .returned (.bool (G.valid ⟨f, t, a, s, ⟨k, o, d, u, v⟩⟩)) ∧ Below W.heap.size W w') := HV
  have PM : Hid (∀ W A c ys n, RdB W A n ys → n + 45 ≤ 140737488355328 → Calls Tryd.prog 30 #[.slice A n c, .agg #[.int .i64 k, .int .i64 o, .int .i64 d, .int .i64 u, .int .i64 v]] W (RetB W (ys ++ M.enc ⟨k, o, d, u, v⟩))) := PM
  show Calls Tryd.prog 16 #[.slice A n c, .agg #[.int .i64 f, .int .i64 t, .int .i64 a, .int .i64 s, .int .i64 k, .int .i64 o, .int .i64 d, .int .i64 u, .int .i64 v]] w _
  have HBX := Lib.hid (GBox.new w f t a s k o d u v)
  have B1 := Lib.hid (below_alloc (Below.refl w.heap.size w) (.cells #[.int .i64 f, .int .i64 t, .int .i64 a, .int .i64 s, .int .i64 k, .int .i64 o, .int .i64 d, .int .i64 u, .int .i64 v] 26))
  have hs1 := B1.out.size
  have HR1 := Lib.hid (HR.out.below B1.out)
  generalize G.valid ⟨f, t, a, s, ⟨k, o, d, u, v⟩⟩ = vv at HV HE0 HE1 HEN HPS
  generalize G.enc ⟨f, t, a, s, ⟨k, o, d, u, v⟩⟩ = EE at HE0 HE1 HEN ⊢
  clear hg hmI
  go_enter Tryd.func16, Tryd.ntmps16
  go_wp2_with (first | (at_builtin; rw [show w.heap.size + 1 = (w.alloc (.cells #[.int .i64 f, .int .i64 t, .int .i64 a, .int .i64 s, .int .i64 k, .int .i64 o, .int .i64 d, .int .i64 u, .int .i64 v] 26)).heap.size from by simp]; generalize w.alloc (.cells #[.int .i64 f, .int .i64 t, .int .i64 a, .int .i64 s, .int .i64 k, .int .i64 o, .int .i64 d, .int .i64 u, .int .i64 v] 26) = W at HBX HR1 B1 hs1 ⊢; refine app (w0 := W) (base := W.heap.size) rfl (.tmp 6) (.tmp 7) rfl rfl rfl (OwB.lit0 W _ (Nat.le_refl _)) (HR1.out.below ((Below.refl W.heap.size W).alloc (Nat.le_refl _) _)) ((Below.refl W.heap.size W).alloc (Nat.le_refl _) _) ?s2 ?l2 ?_; (case s2 => simp); (case l2 => omega); intro A2 n2 c2 w2 ho hb; have hl2 := ho.len; rw [List.nil_append] at ho; rw [List.nil_append, HR.out.len] at hl2; subst hl2; have HO2 := Lib.hid ho; have HB2 := Lib.hid hb; have HBX2 := Lib.hid (HBX.out.below hb); obtain ⟨⟨e0, e1, e2, e3⟩, e4, e5, e6, e7, e8⟩ := HBX2.out; dsimp only at e0 e1 e2 e3 e4 e5 e6 e7 e8; clear ho hb))
  have HBW2 := Lib.hid (B1.out.trans (HB2.out.mono hs1))
  have hs2 := HBW2.out.size
  clear HBX HB2
  refine (HV.out _).mono ?_
  rintro e w3 ⟨rfl, hb⟩
  have HO3 := Lib.hid (HO2.out.below hb)
  have HR3 := Lib.hid HO3.out.rd
  have HBX3 := Lib.hid (HBX2.out.below hb)
  have HB3 := Lib.hid (HBW2.out.trans (hb.mono hs2))
  have hs3 := HB3.out.size
  obtain ⟨⟨e0, e1, e2, e3⟩, e4, e5, e6, e7, e8⟩ := HBX3.out
  dsimp only at e0 e1 e2 e3 e4 e5 e6 e7 e8
  clear hb
  cases vv
  · have HE := Lib.hid (HEN.out rfl)
    go_wp2
    go_ret
    exact ⟨A2, n, c2, rfl, by rw [HE.out, List.append_nil]; exact HO3.out.less hs1, HB3.out⟩
  · have hs0 := HPS.out rfl
    clear HO3
    go_wp2_with fail
    refine (refput_any _ _ _ _ f _ HR3.out (by omega) (by omega)).mono ?_
    rintro e w4 ⟨A4, n4, c4, rfl, ho, hb⟩
    have hn4 : n4 ≤ n + 9 := Nat.le_trans (len9 ho (Nat.le_of_eq HR3.out.len) (by omega)) (by omega)
    have HO4 := Lib.hid (ho.less hs3)
    have HR4 := Lib.hid ho.rd
    have HB4 := Lib.hid (HB3.out.trans (hb.mono hs3))
    have HBX4 := Lib.hid (HBX3.out.below hb)
    have hs4 := HB4.out.size
    obtain ⟨⟨e0, e1, e2, e3⟩, e4, e5, e6, e7, e8⟩ := HBX4.out
    dsimp only at e0 e1 e2 e3 e4 e5 e6 e7 e8
    clear ho hb
    go_wp2_with fail
    refine (refput_any _ _ _ _ t _ HR4.out (by omega) (by omega)).mono ?_
    rintro e w5 ⟨A5, n5, c5, rfl, ho, hb⟩
    have hn5 : n5 ≤ n + 18 := Nat.le_trans (len9 ho (Nat.le_of_eq HR4.out.len) (by omega)) (by omega)
    have HO5 := Lib.hid (ho.less hs4)
    have HR5 := Lib.hid ho.rd
    have HB5 := Lib.hid (HB4.out.trans (hb.mono hs4))
    have HBX5 := Lib.hid (HBX4.out.below hb)
    have hs5 := HB5.out.size
    obtain ⟨⟨e0, e1, e2, e3⟩, e4, e5, e6, e7, e8⟩ := HBX5.out
    dsimp only at e0 e1 e2 e3 e4 e5 e6 e7 e8
    clear ho hb
    go_wp2_with fail
    refine (refput_any _ _ _ _ a _ HR5.out (by omega) (by omega)).mono ?_
    rintro e w6 ⟨A6, n6, c6, rfl, ho, hb⟩
    have hn6 : n6 ≤ n + 27 := Nat.le_trans (len9 ho (Nat.le_of_eq HR5.out.len) (by omega)) (by omega)
    have HO6 := Lib.hid (ho.less hs5)
    have HR6 := Lib.hid ho.rd
    have HB6 := Lib.hid (HB5.out.trans (hb.mono hs5))
    have HBX6 := Lib.hid (HBX5.out.below hb)
    have hs6 := HB6.out.size
    obtain ⟨⟨e0, e1, e2, e3⟩, e4, e5, e6, e7, e8⟩ := HBX6.out
    dsimp only at e0 e1 e2 e3 e4 e5 e6 e7 e8
    clear ho hb
    go_wp2_with fail
    refine (refput_any _ _ _ _ s _ HR6.out (by omega) (by omega)).mono ?_
    rintro e w7 ⟨A7, n7, c7, rfl, ho, hb⟩
    have hn7 : n7 ≤ n + 36 := Nat.le_trans (len9 ho (Nat.le_of_eq HR6.out.len) (by omega)) (by omega)
    have HO7 := Lib.hid (ho.less hs6)
    have HR7 := Lib.hid ho.rd
    have HB7 := Lib.hid (HB6.out.trans (hb.mono hs6))
    have HBX7 := Lib.hid (HBX6.out.below hb)
    have hs7 := HB7.out.size
    obtain ⟨⟨e0, e1, e2, e3⟩, e4, e5, e6, e7, e8⟩ := HBX7.out
    dsimp only at e0 e1 e2 e3 e4 e5 e6 e7 e8
    clear ho hb
    by_cases hz : s = 0
    · have HE := Lib.hid (HE0.out (by trivial) hz)
      have hzb : decide (0 < s) = false := decide_eq_false (by omega)
      clear hz
      go_wp2
      go_ret
      exact ⟨A7, n7, c7, rfl, by rw [HE.out]; have := HO7.out; simpa [encAll, List.append_assoc] using this, HB7.out⟩
    · have HE := Lib.hid (HE1.out (by trivial) hz)
      have hzb : decide (0 < s) = true := decide_eq_true (by omega)
      clear hz
      go_wp2_with fail
      refine (PM.out _ _ _ _ _ HR7.out (by omega)).mono ?_
      rintro e w8 ⟨A8, n8, c8, rfl, ho, hb⟩
      have HO8 := Lib.hid (ho.less hs7)
      have HB8 := Lib.hid (HB7.out.trans (hb.mono hs7))
      clear ho hb
      go_wp2
      go_ret
      exact ⟨A8, n8, c8, rfl, by rw [HE.out]; have := HO8.out; simpa [encAll, List.append_assoc] using this, HB8.out⟩
end Go.Proofs.YtobkcedmjeidfaaDoor.gramw
