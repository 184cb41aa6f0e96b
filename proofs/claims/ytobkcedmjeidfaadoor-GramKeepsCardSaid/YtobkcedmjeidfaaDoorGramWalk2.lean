/- What gram.Put and the reference's Put compute. -/
import Derived.Test.YtobkcedmjeidfaaDoorGramWalk
import Derived.Deep.RegionHeld3
set_option linter.unusedVariables false
set_option linter.unusedSimpArgs false
namespace Go.Proofs.YtobkcedmjeidfaaDoor.gramw
open Go.RowKit Go.Proofs.YtobkcedmjeidfaaDoorW.PrintWords Go.Proofs.YtobkcedmjeidfaaDoor.base Go.Proofs.YtobkcedmjeidfaaDoor.mem Go.Proofs.YtobkcedmjeidfaaDoor.packp Go.Proofs.YtobkcedmjeidfaaDoor.packw Go.Proofs.YtobkcedmjeidfaaDoor.samew Go.Proofs.YtobkcedmjeidfaaDoor.wirep Go.Proofs.YtobkcedmjeidfaaDoor.wirew Go.Proofs.YtobkcedmjeidfaaDoor.gramp

/-- a datagram's box -/
def GBox (w : World) (b : Nat) (g : G) : Prop := (w.cell? ⟨b, 0, none⟩ = some (.int .i64 g.f) ∧ w.cell? ⟨b, 1, none⟩ = some (.int .i64 g.t) ∧ w.cell? ⟨b, 2, none⟩ = some (.int .i64 g.a) ∧ w.cell? ⟨b, 3, none⟩ = some (.int .i64 g.s)) ∧ w.cell? ⟨b, 4, none⟩ = some (.int .i64 g.m.k) ∧ w.cell? ⟨b, 5, none⟩ = some (.int .i64 g.m.o) ∧ w.cell? ⟨b, 6, none⟩ = some (.int .i64 g.m.d) ∧ w.cell? ⟨b, 7, none⟩ = some (.int .i64 g.m.u) ∧ w.cell? ⟨b, 8, none⟩ = some (.int .i64 g.m.v)
theorem GBox.new (w : World) (f t a s k o d u v : Int) : GBox (w.alloc (.cells #[.int .i64 f, .int .i64 t, .int .i64 a, .int .i64 s, .int .i64 k, .int .i64 o, .int .i64 d, .int .i64 u, .int .i64 v] 26)) w.heap.size ⟨f, t, a, s, ⟨k, o, d, u, v⟩⟩ := by
  have hh : (w.alloc (.cells #[.int .i64 f, .int .i64 t, .int .i64 a, .int .i64 s, .int .i64 k, .int .i64 o, .int .i64 d, .int .i64 u, .int .i64 v] 26)).heap[w.heap.size]? = some (.cells #[.int .i64 f, .int .i64 t, .int .i64 a, .int .i64 s, .int .i64 k, .int .i64 o, .int .i64 d, .int .i64 u, .int .i64 v] 26) := by
    show (w.heap.push _)[w.heap.size]? = _
    simp
  refine ⟨⟨?_, ?_, ?_, ?_⟩, ?_, ?_, ?_, ?_, ?_⟩ <;> (unfold World.cell?; rw [hh]; rfl)
theorem GBox.below {w w1 : World} {b : Nat} {g : G} (h : GBox w b g) (hb : Below w.heap.size w w1) : GBox w1 b g :=
  ⟨⟨pw_cell_below hb h.1.1, pw_cell_below hb h.1.2.1, pw_cell_below hb h.1.2.2.1, pw_cell_below hb h.1.2.2.2⟩, pw_cell_below hb h.2.1, pw_cell_below hb h.2.2.1, pw_cell_below hb h.2.2.2.1, pw_cell_below hb h.2.2.2.2.1, pw_cell_below hb h.2.2.2.2.2⟩
theorem RetB.map {w w' : World} {xs ys : List Int} {e : Ending} (h : RetB w xs e w') (he : xs = ys) : RetB w ys e w' := by subst he; exact h
set_option maxHeartbeats 1000000 in
theorem gput_any (A : Option Addr) (n c : Nat) (xs : List Int) (g : G) (w : World) (hr : RdB w A n xs) (hg : g.I) (hl : n + 81 ≤ 140737488355328) :
    Calls Tryd.prog 15 #[.slice A n c, g.agg] w (RetB w (xs ++ g.enc)) := by
  have HR := Lib.hid hr
  have HV := Lib.hid (gvalid_any g)
  have hx4 : ∀ z ∈ [g.f, g.t, g.a, g.s], -9223372036854775808 ≤ z ∧ z ≤ 9223372036854775807 := by
    intro z hz
    obtain ⟨h1, h2, h3, h4, _⟩ := hg
    unfold i64 at h1 h2 h3 h4
    simp at hz
    omega
  have hmI := hg.2.2.2.2
  clear hr
  cases hv : g.valid
  · have HE := Lib.hid (G.enc_none hv)
    rw [hv] at HV
    obtain ⟨f, t, a, s, k, o, d, u, v⟩ := g
    have HV : Hid (∀ W, Calls Tryd.prog 12 #[.agg #[.int .i64 f, .int .i64 t, .int .i64 a, .int .i64 s, .int .i64 k, .int .i64 o, .int .i64 d, .int .i64 u, .int .i64 v]] W fun e w' => e = .returned (.bool false) ∧ Below W.heap.size W w') := HV
    show Calls Tryd.prog 15 #[.slice A n c, .agg #[.int .i64 f, .int .i64 t, .int .i64 a, .int .i64 s, .int .i64 k, .int .i64 o, .int .i64 d, .int .i64 u, .int .i64 v]] w _
    have B1 := Lib.hid (below_alloc (Below.refl w.heap.size w) (.cells #[.int .i64 f, .int .i64 t, .int .i64 a, .int .i64 s, .int .i64 k, .int .i64 o, .int .i64 d, .int .i64 u, .int .i64 v] 26))
    have hs1 := B1.out.size
    clear hx4 hmI hg hv
    go_enter Tryd.func15, Tryd.ntmps15
    go_wp2_with fail
    refine (HV.out _).mono ?_
    rintro e w2 ⟨rfl, hb⟩
    have B2 := Lib.hid (B1.out.trans (hb.mono hs1))
    have HR2 := Lib.hid (HR.out.below B2.out)
    clear hb
    go_wp2_with fail
    refine (put_any _ _ _ _ none 0 0 [] _ HR2.out ⟨rfl, by omega, fun h => absurd h (by omega)⟩ (by simp) (by omega)).mono ?_
    rintro e w3 hret
    have HRet := Lib.hid (RetB.from B2.out hret)
    clear hret
    obtain ⟨A3, n3, c3, rfl, ho, hb⟩ := HRet.out
    go_wp2
    go_ret
    exact ⟨A3, n3, c3, rfl, by rw [HE.out]; exact ho, hb⟩
  · have HX4 := Lib.hid hx4
    have HE0 : Hid (g.s = 0 → g.enc = encAll [g.f, g.t, g.a, g.s]) := Lib.hid (G.enc_bare hv)
    have HE1 : Hid (g.s ≠ 0 → g.enc = encAll [g.f, g.t, g.a, g.s] ++ g.m.enc) := Lib.hid (G.enc_told hv)
    have hlen4 := encAll_len [g.f, g.t, g.a, g.s] (fun z h => (hx4 z h).2)
    simp only [List.length_cons, List.length_nil, Nat.zero_add, Nat.reduceAdd] at hlen4
    have PM := Lib.hid (fun W A c ys n (h : RdB W A n ys) (hl : n + 45 ≤ 140737488355328) => wput_any A n c ys g.m W h hmI hl)
    rw [hv] at HV
    obtain ⟨f, t, a, s, k, o, d, u, v⟩ := g
    have HV : Hid (∀ W, Calls Tryd.prog 12 #[.agg #[.int .i64 f, .int .i64 t, .int .i64 a, .int .i64 s, .int .i64 k, .int .i64 o, .int .i64 d, .int .i64 u, .int .i64 v]] W fun e w' => e = .returned (.bool true) ∧ Below W.heap.size W w') := HV
    have PM : Hid (∀ W A c ys n, RdB W A n ys → n + 45 ≤ 140737488355328 → Calls Tryd.prog 28 #[.slice A n c, .agg #[.int .i64 k, .int .i64 o, .int .i64 d, .int .i64 u, .int .i64 v]] W (RetB W (ys ++ M.enc ⟨k, o, d, u, v⟩))) := PM
    dsimp only at hlen4 HE0 HE1 HX4
    show Calls Tryd.prog 15 #[.slice A n c, .agg #[.int .i64 f, .int .i64 t, .int .i64 a, .int .i64 s, .int .i64 k, .int .i64 o, .int .i64 d, .int .i64 u, .int .i64 v]] w _
    have B1 := Lib.hid (below_alloc (Below.refl w.heap.size w) (.cells #[.int .i64 f, .int .i64 t, .int .i64 a, .int .i64 s, .int .i64 k, .int .i64 o, .int .i64 d, .int .i64 u, .int .i64 v] 26))
    have HX1 := Lib.hid (GBox.new w f t a s k o d u v)
    have hs1 := B1.out.size
    clear hx4 hmI hg hv
    go_enter Tryd.func15, Tryd.ntmps15
    go_wp2_with fail
    refine (HV.out _).mono ?_
    rintro e w2 ⟨rfl, hb⟩
    have B2 := Lib.hid (B1.out.trans (hb.mono hs1))
    have hs2 := B2.out.size
    have HX2 := Lib.hid (HX1.out.below hb)
    have HR2 := Lib.hid ((HR.out.below B2.out).below (below_alloc (Below.refl _ _) (.cells (nums .i64 [f, t, a, s]).toArray 3)))
    have B3 := Lib.hid (B2.out.alloc hs2 (.cells (nums .i64 [f, t, a, s]).toArray 3))
    have hs3 := B3.out.size
    have HX3 := Lib.hid (HX2.out.below (below_alloc (Below.refl _ _) (.cells (nums .i64 [f, t, a, s]).toArray 3)))
    have HI := Lib.hid (litI w2 _ rfl (0, 0) [f, t, a, s] (Nat.le_of_ble_eq_true rfl))
    obtain ⟨⟨e0, e1, e2, e3⟩, e4, e5, e6, e7, e8⟩ := HX2.out
    dsimp only at e0 e1 e2 e3 e4 e5 e6 e7 e8
    clear hb
    go_wp2_with fail
    refine (put_any _ _ _ _ _ _ _ [f, t, a, s] _ HR2.out HI.out HX4.out (by simp; omega)).mono ?_
    rintro e w3 ⟨A3, n3, c3, rfl, ho, hb⟩
    have hn3 := ho.len
    rw [List.length_append, HR.out.len] at hn3
    have hn3 : n3 ≤ n + 36 := by omega
    have HX4' := Lib.hid (HX3.out.below hb)
    have B4 := Lib.hid (B3.out.trans (hb.mono hs3))
    have hs4 := B4.out.size
    have HO3 := Lib.hid (ho.less hs3)
    obtain ⟨⟨y0, y1, y2, y3⟩, y4, y5, y6, y7, y8⟩ := HX4'.out
    dsimp only at y0 y1 y2 y3 y4 y5 y6 y7 y8
    clear ho hb e0 e1 e2 e3 e4 e5 e6 e7 e8
    by_cases hs : s = 0
    · have HEz := Lib.hid (HE0.out hs)
      have hsb : (s == 0) = true := by rw [hs]; rfl
      clear hs
      go_wp2
      go_ret
      exact ⟨A3, n3, c3, rfl, by rw [HEz.out]; exact HO3.out, B4.out⟩
    · have HEz := Lib.hid (HE1.out hs)
      have hsb : (s == 0) = false := beq_eq_false_iff_ne.2 hs
      clear hs
      go_wp2_with fail
      refine (PM.out _ _ _ _ _ HO3.out.rd (by omega)).mono ?_
      rintro e w5 hret
      have HRet := Lib.hid (RetB.from B4.out hret)
      clear hret
      obtain ⟨A5, n5, c5, rfl, ho, hb⟩ := HRet.out
      go_wp2
      go_ret
      exact ⟨A5, n5, c5, rfl, by rw [HEz.out, ← List.append_assoc]; exact ho, hb⟩
end Go.Proofs.YtobkcedmjeidfaaDoor.gramw
