/- What wire.Put, the reference's Put and the law's wakes compute. -/
import Derived.Test.YtobkcedmjeidfaaDoorWireWalk
import Derived.Deep.RegionHeld3
set_option linter.unusedVariables false
set_option linter.unusedSimpArgs false
namespace Go.Proofs.YtobkcedmjeidfaaDoor.wirew
open Go.RowKit Go.Proofs.YtobkcedmjeidfaaDoorW.PrintWords Go.Proofs.YtobkcedmjeidfaaDoor.base Go.Proofs.YtobkcedmjeidfaaDoor.mem Go.Proofs.YtobkcedmjeidfaaDoor.packp Go.Proofs.YtobkcedmjeidfaaDoor.packw Go.Proofs.YtobkcedmjeidfaaDoor.samew Go.Proofs.YtobkcedmjeidfaaDoor.wirep

theorem RetB.from {w w1 w' : World} {xs : List Int} {e : Ending} (hb : Below w.heap.size w w1) (h : RetB w1 xs e w') : RetB w xs e w' := by
  obtain ⟨A, n, c, rfl, ho, hb'⟩ := h
  exact ⟨A, n, c, rfl, ho.less hb.size, hb.trans (hb'.mono hb.size)⟩
/-- a message's box -/
def Box (w : World) (b : Nat) (m : M) : Prop := w.cell? ⟨b, 0, none⟩ = some (.int .i64 m.k) ∧ w.cell? ⟨b, 1, none⟩ = some (.int .i64 m.o) ∧ w.cell? ⟨b, 2, none⟩ = some (.int .i64 m.d) ∧ w.cell? ⟨b, 3, none⟩ = some (.int .i64 m.u) ∧ w.cell? ⟨b, 4, none⟩ = some (.int .i64 m.v)
theorem Box.new (w : World) (k o d u v : Int) : Box (w.alloc (.cells #[.int .i64 k, .int .i64 o, .int .i64 d, .int .i64 u, .int .i64 v] 24)) w.heap.size ⟨k, o, d, u, v⟩ := by
  have hh : (w.alloc (.cells #[.int .i64 k, .int .i64 o, .int .i64 d, .int .i64 u, .int .i64 v] 24)).heap[w.heap.size]? = some (.cells #[.int .i64 k, .int .i64 o, .int .i64 d, .int .i64 u, .int .i64 v] 24) := by
    show (w.heap.push _)[w.heap.size]? = _
    simp
  refine ⟨?_, ?_, ?_, ?_, ?_⟩ <;> (unfold World.cell?; rw [hh]; rfl)
theorem Box.below {w w1 : World} {b : Nat} {m : M} (h : Box w b m) (hb : Below w.heap.size w w1) : Box w1 b m :=
  ⟨pw_cell_below hb h.1, pw_cell_below hb h.2.1, pw_cell_below hb h.2.2.1, pw_cell_below hb h.2.2.2.1, pw_cell_below hb h.2.2.2.2⟩

set_option maxHeartbeats 1000000 in
theorem wput_any (A : Option Addr) (n c : Nat) (xs : List Int) (m : M) (w : World) (hr : RdB w A n xs) (hm : m.I) (hl : n + 45 ≤ 140737488355328) :
    Calls Tryd.prog 28 #[.slice A n c, m.agg] w (RetB w (xs ++ m.enc)) := by
  have HR := Lib.hid hr
  have HV := Lib.hid (valid_any m)
  clear hr
  obtain ⟨k, o, d, u, v⟩ := m
  obtain ⟨⟨k0, k1⟩, ⟨o0, o1⟩, ⟨d0, d1⟩, ⟨u0, u1⟩, v0, v1⟩ := hm
  dsimp only at k0 k1 o0 o1 d0 d1 u0 u1 v0 v1
  show Calls Tryd.prog 28 #[.slice A n c, .agg #[.int .i64 k, .int .i64 o, .int .i64 d, .int .i64 u, .int .i64 v]] w _
  have HBX := Lib.hid (Box.new w k o d u v)
  have B1 := Lib.hid (below_alloc (Below.refl w.heap.size w) (.cells #[.int .i64 k, .int .i64 o, .int .i64 d, .int .i64 u, .int .i64 v] 24))
  have hs1 : w.heap.size ≤ (w.alloc (.cells #[.int .i64 k, .int .i64 o, .int .i64 d, .int .i64 u, .int .i64 v] 24)).heap.size := B1.out.size
  cases hv : M.valid ⟨k, o, d, u, v⟩
  · have HE := Lib.hid (M.enc_none hv)
    rw [hv] at HV
    go_enter Tryd.func28, Tryd.ntmps28
    go_wp2_with fail
    refine (HV.out _).mono ?_
    rintro e w2 ⟨rfl, hb⟩
    have B2 := Lib.hid (B1.out.trans (hb.mono hs1))
    have HR2 := Lib.hid (HR.out.below B2.out)
    clear hb
    go_wp2_with fail
    refine (put_any _ _ _ _ none 0 0 [] _ HR2.out ⟨rfl, by omega, fun h => absurd h (by omega)⟩ (by simp) (by omega)).mono ?_
    rintro e w3 hret
    have HRet := Lib.hid (RetB.from B2.out hret)
    clear hret
    obtain ⟨A3, n3, c3, rfl, ho, hb⟩ := HRet.out
    go_wp2
    go_ret
    exact ⟨A3, n3, c3, rfl, by rw [HE.out]; exact ho, hb⟩
  · by_cases hk : k = 4
    · subst hk
      have HE := Lib.hid (M.enc_tell hv rfl)
      rw [hv] at HV
      have HX : Hid (∀ z ∈ ([4, o, d, u, v] : List Int), -9223372036854775808 ≤ z ∧ z ≤ 9223372036854775807) := Lib.hid fun z hz => by simp at hz; omega
      go_enter Tryd.func28, Tryd.ntmps28
      go_wp2_with fail
      refine (HV.out _).mono ?_
      rintro e w2 ⟨rfl, hb⟩
      have B2 := Lib.hid (B1.out.trans (hb.mono hs1))
      have HR2 := Lib.hid ((HR.out.below B2.out).below (below_alloc (Below.refl _ _) (.cells (nums .i64 [4, o, d, u, v]).toArray 3)))
      have B3 := Lib.hid (B2.out.alloc B2.out.size (.cells (nums .i64 [4, o, d, u, v]).toArray 3))
      have HI := Lib.hid (litI w2 _ rfl (0, 0) [4, o, d, u, v] (Nat.le_of_ble_eq_true rfl))
      obtain ⟨e0, e1, e2, e3, e4⟩ := HBX.out.below hb
      dsimp only at e0 e1 e2 e3 e4
      clear hb
      go_wp2_with fail
      refine (put_any _ _ _ _ _ _ _ [4, o, d, u, v] _ HR2.out HI.out HX.out (by simp; omega)).mono ?_
      rintro e w3 hret
      have HRet := Lib.hid (RetB.from B3.out hret)
      clear hret
      obtain ⟨A3, n3, c3, rfl, ho, hb⟩ := HRet.out
      go_wp2
      go_ret
      exact ⟨A3, n3, c3, rfl, by rw [HE.out]; exact ho, hb⟩
    · have hkb : (k == 4) = false := beq_eq_false_iff_ne.2 hk
      have HE := Lib.hid (M.enc_other hv hk)
      rw [hv] at HV
      have HX : Hid (∀ z ∈ ([k, o, d, u] : List Int), -9223372036854775808 ≤ z ∧ z ≤ 9223372036854775807) := Lib.hid fun z hz => by simp at hz; omega
      go_enter Tryd.func28, Tryd.ntmps28
      go_wp2_with fail
      refine (HV.out _).mono ?_
      rintro e w2 ⟨rfl, hb⟩
      have B2 := Lib.hid (B1.out.trans (hb.mono hs1))
      have HR2 := Lib.hid ((HR.out.below B2.out).below (below_alloc (Below.refl _ _) (.cells (nums .i64 [k, o, d, u]).toArray 3)))
      have B3 := Lib.hid (B2.out.alloc B2.out.size (.cells (nums .i64 [k, o, d, u]).toArray 3))
      have HI := Lib.hid (litI w2 _ rfl (0, 0) [k, o, d, u] (Nat.le_of_ble_eq_true rfl))
      obtain ⟨e0, e1, e2, e3, e4⟩ := HBX.out.below hb
      dsimp only at e0 e1 e2 e3 e4
      clear hb
      go_wp2_with fail
      refine (put_any _ _ _ _ _ _ _ [k, o, d, u] _ HR2.out HI.out HX.out (by simp; omega)).mono ?_
      rintro e w3 hret
      have HRet := Lib.hid (RetB.from B3.out hret)
      clear hret
      obtain ⟨A3, n3, c3, rfl, ho, hb⟩ := HRet.out
      go_wp2
      go_ret
      exact ⟨A3, n3, c3, rfl, by rw [HE.out]; exact ho, hb⟩
theorem len9 {w : World} {base n n' c : Nat} {A : Option Addr} {xs : List Int} {x : Int} (h : OwB w base A n' c (xs ++ encI x)) (hn : xs.length ≤ n) (hx : x ≤ 9223372036854775807) : n' ≤ n + 9 := by
  have h1 := h.len
  have h2 := (encI_len x hx).2
  rw [List.length_append] at h1
  omega
set_option maxHeartbeats 1000000 in
theorem refwput_any (A : Option Addr) (n c : Nat) (xs : List Int) (m : M) (w : World) (hr : RdB w A n xs) (hm : m.I) (hl : n + 45 ≤ 140737488355328) :
    Calls Tryd.prog 30 #[.slice A n c, m.agg] w (RetB w (xs ++ m.enc)) := by
  have HR := Lib.hid hr
  have HV := Lib.hid (refvalid_any m)
  clear hr
  obtain ⟨k, o, d, u, v⟩ := m
  obtain ⟨⟨k0, k1⟩, ⟨o0, o1⟩, ⟨d0, d1⟩, ⟨u0, u1⟩, v0, v1⟩ := hm
  dsimp only at k0 k1 o0 o1 d0 d1 u0 u1 v0 v1
  show Calls Tryd.prog 30 #[.slice A n c, .agg #[.int .i64 k, .int .i64 o, .int .i64 d, .int .i64 u, .int .i64 v]] w _
  have HBX := Lib.hid (Box.new w k o d u v)
  have B1 := Lib.hid (below_alloc (Below.refl w.heap.size w) (.cells #[.int .i64 k, .int .i64 o, .int .i64 d, .int .i64 u, .int .i64 v] 24))
  have hs1 := B1.out.size
  have HR1 := Lib.hid (HR.out.below B1.out)
  go_enter Tryd.func30, Tryd.ntmps30
  go_wp2_with (first | (at_builtin; rw [show w.heap.size + 1 = (w.alloc (.cells #[.int .i64 k, .int .i64 o, .int .i64 d, .int .i64 u, .int .i64 v] 24)).heap.size from by simp]; generalize w.alloc (.cells #[.int .i64 k, .int .i64 o, .int .i64 d, .int .i64 u, .int .i64 v] 24) = W at HBX HR1 B1 hs1 ⊢; refine app (w0 := W) (base := W.heap.size) rfl (.tmp 6) (.tmp 7) rfl rfl rfl (OwB.lit0 W _ (Nat.le_refl _)) (HR1.out.below ((Below.refl W.heap.size W).alloc (Nat.le_refl _) _)) ((Below.refl W.heap.size W).alloc (Nat.le_refl _) _) ?s2 ?l2 ?_; (case s2 => simp); (case l2 => omega); intro A2 n2 c2 w2 ho hb; have hl2 := ho.len; rw [List.nil_append] at ho; rw [List.nil_append, HR.out.len] at hl2; subst hl2; have HO2 := Lib.hid ho; have HB2 := Lib.hid hb; have HBX2 := Lib.hid (HBX.out.below hb); obtain ⟨e0, e1, e2, e3, e4⟩ := HBX2.out; dsimp only at e0 e1 e2 e3 e4; clear ho hb))
  have HBW2 := Lib.hid (B1.out.trans (HB2.out.mono hs1))
  have hs2 := HBW2.out.size
  clear HBX HB2
  cases hv : M.valid ⟨k, o, d, u, v⟩
  · have HE := Lib.hid (M.enc_none hv)
    rw [hv] at HV
    refine (HV.out _).mono ?_
    rintro e w3 ⟨rfl, hb⟩
    have HO3 := Lib.hid (HO2.out.below hb)
    have HB3 := Lib.hid (HBW2.out.trans (hb.mono hs2))
    clear hb
    go_wp2
    go_ret
    exact ⟨A2, n, c2, rfl, by rw [HE.out, List.append_nil]; exact HO3.out.less hs1, HB3.out⟩
  · by_cases hk : k = 4
    · subst hk
      have HE := Lib.hid (M.enc_tell hv rfl)
      rw [hv] at HV
      refine (HV.out _).mono ?_
      rintro e w3 ⟨rfl, hb⟩
      have HO3 := Lib.hid (HO2.out.below hb)
      have HR3 := Lib.hid HO3.out.rd
      have HBX3 := Lib.hid (HBX2.out.below hb)
      have HB3 := Lib.hid (HBW2.out.trans (hb.mono hs2))
      have hs3 := HB3.out.size
      have hn3 : n ≤ n := Nat.le_refl _
      obtain ⟨e0, e1, e2, e3, e4⟩ := HBX3.out
      dsimp only at e0 e1 e2 e3 e4
      clear hb HO3
      go_wp2_with fail
      refine (refput_any _ _ _ _ 4 _ HR3.out (by omega) (by omega)).mono ?_
      rintro e w4 ⟨A4, n4, c4, rfl, ho, hb⟩
      have hn4 : n4 ≤ n + 9 := Nat.le_trans (len9 ho (Nat.le_of_eq HR3.out.len) (by omega)) (by omega)
      have HO4 := Lib.hid (ho.less hs3)
      have HR4 := Lib.hid ho.rd
      have HB4 := Lib.hid (HB3.out.trans (hb.mono hs3))
      have HBX4 := Lib.hid (HBX3.out.below hb)
      have hs4 := HB4.out.size
      obtain ⟨e0, e1, e2, e3, e4⟩ := HBX4.out
      dsimp only at e0 e1 e2 e3 e4
      clear ho hb
      go_wp2_with fail
      refine (refput_any _ _ _ _ o _ HR4.out (by omega) (by omega)).mono ?_
      rintro e w5 ⟨A5, n5, c5, rfl, ho, hb⟩
      have hn5 : n5 ≤ n + 18 := Nat.le_trans (len9 ho (Nat.le_of_eq HR4.out.len) (by omega)) (by omega)
      have HO5 := Lib.hid (ho.less hs4)
      have HR5 := Lib.hid ho.rd
      have HB5 := Lib.hid (HB4.out.trans (hb.mono hs4))
      have HBX5 := Lib.hid (HBX4.out.below hb)
      have hs5 := HB5.out.size
      obtain ⟨e0, e1, e2, e3, e4⟩ := HBX5.out
      dsimp only at e0 e1 e2 e3 e4
      clear ho hb
      go_wp2_with fail
      refine (refput_any _ _ _ _ d _ HR5.out (by omega) (by omega)).mono ?_
      rintro e w6 ⟨A6, n6, c6, rfl, ho, hb⟩
      have hn6 : n6 ≤ n + 27 := Nat.le_trans (len9 ho (Nat.le_of_eq HR5.out.len) (by omega)) (by omega)
      have HO6 := Lib.hid (ho.less hs5)
      have HR6 := Lib.hid ho.rd
      have HB6 := Lib.hid (HB5.out.trans (hb.mono hs5))
      have HBX6 := Lib.hid (HBX5.out.below hb)
      have hs6 := HB6.out.size
      obtain ⟨e0, e1, e2, e3, e4⟩ := HBX6.out
      dsimp only at e0 e1 e2 e3 e4
      clear ho hb
      go_wp2_with fail
      refine (refput_any _ _ _ _ u _ HR6.out (by omega) (by omega)).mono ?_
      rintro e w7 ⟨A7, n7, c7, rfl, ho, hb⟩
      have hn7 : n7 ≤ n + 36 := Nat.le_trans (len9 ho (Nat.le_of_eq HR6.out.len) (by omega)) (by omega)
      have HO7 := Lib.hid (ho.less hs6)
      have HR7 := Lib.hid ho.rd
      have HB7 := Lib.hid (HB6.out.trans (hb.mono hs6))
      have HBX7 := Lib.hid (HBX6.out.below hb)
      have hs7 := HB7.out.size
      obtain ⟨e0, e1, e2, e3, e4⟩ := HBX7.out
      dsimp only at e0 e1 e2 e3 e4
      clear ho hb
      go_wp2_with fail
      refine (refput_any _ _ _ _ v _ HR7.out (by omega) (by omega)).mono ?_
      rintro e w8 ⟨A8, n8, c8, rfl, ho, hb⟩
      have hn8 : n8 ≤ n + 45 := Nat.le_trans (len9 ho (Nat.le_of_eq HR7.out.len) (by omega)) (by omega)
      have HO8 := Lib.hid (ho.less hs7)
      have HR8 := Lib.hid ho.rd
      have HB8 := Lib.hid (HB7.out.trans (hb.mono hs7))
      have HBX8 := Lib.hid (HBX7.out.below hb)
      have hs8 := HB8.out.size
      obtain ⟨e0, e1, e2, e3, e4⟩ := HBX8.out
      dsimp only at e0 e1 e2 e3 e4
      clear ho hb
      go_wp2
      go_ret
      exact ⟨A8, n8, c8, rfl, by rw [HE.out]; have := HO8.out; simpa [encAll, List.append_assoc] using this, HB8.out⟩
    · have hkb : (k == 4) = false := beq_eq_false_iff_ne.2 hk
      have HE := Lib.hid (M.enc_other hv hk)
      rw [hv] at HV
      refine (HV.out _).mono ?_
      rintro e w3 ⟨rfl, hb⟩
      have HO3 := Lib.hid (HO2.out.below hb)
      have HR3 := Lib.hid HO3.out.rd
      have HBX3 := Lib.hid (HBX2.out.below hb)
      have HB3 := Lib.hid (HBW2.out.trans (hb.mono hs2))
      have hs3 := HB3.out.size
      have hn3 : n ≤ n := Nat.le_refl _
      obtain ⟨e0, e1, e2, e3, e4⟩ := HBX3.out
      dsimp only at e0 e1 e2 e3 e4
      clear hb HO3
      go_wp2_with fail
      refine (refput_any _ _ _ _ k _ HR3.out (by omega) (by omega)).mono ?_
      rintro e w4 ⟨A4, n4, c4, rfl, ho, hb⟩
      have hn4 : n4 ≤ n + 9 := Nat.le_trans (len9 ho (Nat.le_of_eq HR3.out.len) (by omega)) (by omega)
      have HO4 := Lib.hid (ho.less hs3)
      have HR4 := Lib.hid ho.rd
      have HB4 := Lib.hid (HB3.out.trans (hb.mono hs3))
      have HBX4 := Lib.hid (HBX3.out.below hb)
      have hs4 := HB4.out.size
      obtain ⟨e0, e1, e2, e3, e4⟩ := HBX4.out
      dsimp only at e0 e1 e2 e3 e4
      clear ho hb
      go_wp2_with fail
      refine (refput_any _ _ _ _ o _ HR4.out (by omega) (by omega)).mono ?_
      rintro e w5 ⟨A5, n5, c5, rfl, ho, hb⟩
      have hn5 : n5 ≤ n + 18 := Nat.le_trans (len9 ho (Nat.le_of_eq HR4.out.len) (by omega)) (by omega)
      have HO5 := Lib.hid (ho.less hs4)
      have HR5 := Lib.hid ho.rd
      have HB5 := Lib.hid (HB4.out.trans (hb.mono hs4))
      have HBX5 := Lib.hid (HBX4.out.below hb)
      have hs5 := HB5.out.size
      obtain ⟨e0, e1, e2, e3, e4⟩ := HBX5.out
      dsimp only at e0 e1 e2 e3 e4
      clear ho hb
      go_wp2_with fail
      refine (refput_any _ _ _ _ d _ HR5.out (by omega) (by omega)).mono ?_
      rintro e w6 ⟨A6, n6, c6, rfl, ho, hb⟩
      have hn6 : n6 ≤ n + 27 := Nat.le_trans (len9 ho (Nat.le_of_eq HR5.out.len) (by omega)) (by omega)
      have HO6 := Lib.hid (ho.less hs5)
      have HR6 := Lib.hid ho.rd
      have HB6 := Lib.hid (HB5.out.trans (hb.mono hs5))
      have HBX6 := Lib.hid (HBX5.out.below hb)
      have hs6 := HB6.out.size
      obtain ⟨e0, e1, e2, e3, e4⟩ := HBX6.out
      dsimp only at e0 e1 e2 e3 e4
      clear ho hb
      go_wp2_with fail
      refine (refput_any _ _ _ _ u _ HR6.out (by omega) (by omega)).mono ?_
      rintro e w7 ⟨A7, n7, c7, rfl, ho, hb⟩
      have hn7 : n7 ≤ n + 36 := Nat.le_trans (len9 ho (Nat.le_of_eq HR6.out.len) (by omega)) (by omega)
      have HO7 := Lib.hid (ho.less hs6)
      have HR7 := Lib.hid ho.rd
      have HB7 := Lib.hid (HB6.out.trans (hb.mono hs6))
      have HBX7 := Lib.hid (HBX6.out.below hb)
      have hs7 := HB7.out.size
      obtain ⟨e0, e1, e2, e3, e4⟩ := HBX7.out
      dsimp only at e0 e1 e2 e3 e4
      clear ho hb
      go_wp2
      go_ret
      exact ⟨A7, n7, c7, rfl, by rw [HE.out]; have := HO7.out; simpa [encAll, List.append_assoc] using this, HB7.out⟩
end Go.Proofs.YtobkcedmjeidfaaDoor.wirew
