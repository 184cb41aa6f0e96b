/- The walk of the law WireKeeps. -/
import Derived.Test.YtjhoidookoageaaWireLaws1
import Derived.Test.YtjhoidookoageaaWirePure2
import Derived.Test.YtjhoidookoageaaKeep
set_option linter.unusedVariables false
set_option linter.unusedSimpArgs false
namespace Go.Proofs.Ytjhoidookoageaa.wirel
open Go.RowKit Go.Proofs.YtjhoidookoageaaW.PrintWords Go.Proofs.Ytjhoidookoageaa.base Go.Proofs.Ytjhoidookoageaa.mem Go.Proofs.Ytjhoidookoageaa.packp Go.Proofs.Ytjhoidookoageaa.packw Go.Proofs.Ytjhoidookoageaa.samew Go.Proofs.Ytjhoidookoageaa.wirep Go.Proofs.Ytjhoidookoageaa.wirew Go.Proofs.Ytjhoidookoageaa.keep

set_option maxHeartbeats 2000000 in
set_option maxRecDepth 100000 in
theorem keepsLaw (A : Option Addr) (n c : Nat) (xs : List Int) (m : M) (w : World) (hr : RdB w A n xs) (hc : n ≤ c) (hn : n * 1 ≤ 140737488351232) (hm : m.I) :
    Calls Try.prog 4 #[.slice A n c, m.agg] w fun e w' => e = .returned (.bool true) ∧ Below w.heap.size w w' := by
  have hl : n + 45 ≤ 140737488355328 := by omega
  have HPut := Lib.hid (fun W A1 c1 (h : RdB W A1 n xs) => wput_any A1 n c1 xs m W h hm hl)
  have hE : m.enc.length ≤ 45 := by
    cases hv : m.valid
    · rw [M.enc_none hv]; decide
    · exact (M.enc_len hv).2
  have HR := Lib.hid hr
  have hn' : n ≤ 140737488351232 := by omega
  clear hr hn
  generalize m.enc = E at HPut hE
  obtain ⟨k, o, d, u, v⟩ := m
  have HPut : Hid (∀ W A1 c1, RdB W A1 n xs → Calls Try.prog 13 #[.slice A1 n c1, .agg #[.int .i64 k, .int .i64 o, .int .i64 d, .int .i64 u, .int .i64 v]] W (RetB W (xs ++ E))) := HPut
  show Calls Try.prog 4 #[.slice A n c, .agg #[.int .i64 k, .int .i64 o, .int .i64 d, .int .i64 u, .int .i64 v]] w _
  have HX0 := Lib.hid (Box.new w k o d u v)
  have HB0 := Lib.hid (below_alloc (Below.refl w.heap.size w) (.cells #[.int .i64 k, .int .i64 o, .int .i64 d, .int .i64 u, .int .i64 v] 24))
  have hs0 := HB0.out.size
  have L7 : Hid (By [71, 72, 73, 74, 75, 76, 77]) := Lib.hid (By_of _ (by decide))
  go_enter Try.func4, Try.ntmps4
  go_wp2_with fail
  refine (wakes_any _).mono ?_
  rintro e w1 ⟨rfl, hb⟩
  have HB1 := Lib.hid (HB0.out.trans (hb.mono hs0))
  have hs1 := HB1.out.size
  have HX1 := Lib.hid (HX0.out.below hb)
  have HR1 := Lib.hid (HR.out.below HB1.out)
  have R1 := Lib.hid (Below.refl w1.heap.size w1)
  clear hb
  go_wp2_with (first | (at_builtin; refine app (w0 := w1) (base := w1.heap.size) rfl (.tmp 15) (.tmp 16) rfl rfl rfl (OwB.lit0 w1 _ (Nat.le_refl _)) (HR1.out.below (R1.out.alloc (Nat.le_refl _) _)) (R1.out.alloc (Nat.le_refl _) _) ?s2 ?l2 ?_; (case s2 => simp); (case l2 => omega); intro A2 n2 c2 w2 ho hb; have hL1 := ho.len; rw [List.nil_append] at ho; rw [List.nil_append, HR.out.len] at hL1; subst hL1; have HO2 := Lib.hid ho; have HB2 := Lib.hid hb; have hs2 := hb.size; clear ho hb) | (at_builtin; refine app (w0 := w1) (base := w1.heap.size) rfl (.tmp 17) (.tmp 18) rfl rfl rfl (HO2.out.alloc _) (litB w2 (0, 0) [71, 72, 73, 74, 75, 76, 77] (Nat.le_of_ble_eq_true rfl) L7.out) (HB2.out.alloc hs2 _) ?s3 ?l3 ?_; (case s3 => simp; omega); (case l3 => simp; omega); intro A3 n3 c3 w3 ho hb; have hL3 := ho.len; rw [List.length_append, HR.out.len] at hL3; have hL3a : n3 ≤ n + 7 := Nat.le_of_eq hL3.symm; have hL3b : n + 7 ≤ n3 := Nat.le_of_eq hL3; clear hL3; have HO3 := Lib.hid ho; have HB3 := Lib.hid hb; have hs3 := hb.size; have HX3 := Lib.hid (HX1.out.below hb); obtain ⟨e0, e1, e2, e3, e4⟩ := HX3.out; dsimp only at e0 e1 e2 e3 e4; clear ho hb))
  have hc3 := HO3.out.cap
  have hnc3 : n ≤ c3 := by omega
  have hn3 : n ≤ n3 := by omega
  obtain ⟨g3, rfl, hg3, hg3l⟩ := HO3.out.form (by omega)
  have RM3 : Hid (RdB w3.drew (some ⟨g3, 0, none⟩) n xs) := Lib.hid (by have := ((HO3.out.rd.take n hn3).below (Below.refl _ _).drew); rwa [List.take_left' HR.out.len] at this)
  have HBD := Lib.hid HB3.out.drew
  have HXD := Lib.hid (HX3.out.below (Below.refl _ _).drew)
  have HOD := Lib.hid (HO3.out.below (Below.refl _ _).drew)
  have hsD := HBD.out.size
  have hs3D : w3.heap.size = w3.drew.heap.size := rfl
  go_region_held3 (fun W => W.cell? ⟨w.heap.size, 0, none⟩ = some (.int .i64 k) ∧ W.cell? ⟨w.heap.size, 1, none⟩ = some (.int .i64 o) ∧ W.cell? ⟨w.heap.size, 2, none⟩ = some (.int .i64 d) ∧ W.cell? ⟨w.heap.size, 3, none⟩ = some (.int .i64 u) ∧ W.cell? ⟨w.heap.size, 4, none⟩ = some (.int .i64 v)) (first | assumption | exact ⟨by assumption, by assumption, by assumption, by assumption, by assumption⟩) (first | (go_at_call 13; refine (HPut.out _ _ _ RM3.out).mono ?_; rintro e w4 ⟨A4, n4, c4, rfl, ho, hb⟩; have HB4 := Lib.hid (HBD.out.trans (hb.mono hsD)); have HX4 := Lib.hid (HXD.out.below hb); have HM4 := Lib.hid (HOD.out.below hb); have HO4 := Lib.hid ho; have hs4 := hb.size; obtain ⟨y0, y1, y2, y3, y4⟩ := HX4.out; dsimp only at y0 y1 y2 y3 y4; clear ho hb))
  have hn4 := HO4.out.len
  rw [List.length_append, HR.out.len] at hn4
  have RM4 : Hid (RdB w4.drew (some ⟨g3, 0, none⟩) n xs) := Lib.hid (by have := ((HM4.out.rd.take n hn3).below (Below.refl _ _).drew); rwa [List.take_left' HR.out.len] at this)
  have HBE := Lib.hid HB4.out.drew
  have HXE := Lib.hid (HX4.out.below (Below.refl _ _).drew)
  have HME := Lib.hid (HM4.out.below (Below.refl _ _).drew)
  have HOE := Lib.hid (HO4.out.below (Below.refl _ _).drew)
  have hsE := HBE.out.size
  have HL4 := Lib.hid (OwB.lies HO4.out (Nat.le_refl _) (Nat.le_refl _))
  go_wp2_with fail
  go_region_held3 (fun W => W.cell? ⟨w.heap.size, 0, none⟩ = some (.int .i64 k) ∧ W.cell? ⟨w.heap.size, 1, none⟩ = some (.int .i64 o) ∧ W.cell? ⟨w.heap.size, 2, none⟩ = some (.int .i64 d) ∧ W.cell? ⟨w.heap.size, 3, none⟩ = some (.int .i64 u) ∧ W.cell? ⟨w.heap.size, 4, none⟩ = some (.int .i64 v)) (first | assumption | exact ⟨by assumption, by assumption, by assumption, by assumption, by assumption⟩) (first | (go_at_call 13; refine (HPut.out _ _ _ RM4.out).mono ?_; rintro e w5 ⟨A5, n5, c5, rfl, ho, hb⟩; have HB5 := Lib.hid (HBE.out.trans (hb.mono hsE)); have HM5 := Lib.hid (HME.out.below hb); have HO5 := Lib.hid (HOE.out.below hb); have HT5 := Lib.hid ho; have hs5 := hb.size; have HX5 := Lib.hid (HXE.out.below hb); obtain ⟨z0, z1, z2, z3, z4⟩ := HX5.out; dsimp only at z0 z1 z2 z3 z4; clear ho hb))
  have hn5 := HT5.out.len
  rw [List.length_append, HR.out.len] at hn5
  have R5 := Lib.hid (Below.refl w5.heap.size w5)
  have HBW5 := Lib.hid (HB1.out.trans (HB5.out.mono hs1))
  clear HX0 HX1 HX3 HXD HX4 HXE HX5 e0 e1 e2 e3 e4 z0 z1 z2 z3 z4 HBE HB4 HBD HB3 HB2 HB0 HM4 HME HOD HO3 HO2 HOE HR1 R1 RM3 RM4 HPut
  go_wp2_with (first | (at_builtin; refine app (w0 := w5) (base := w5.heap.size) rfl (.tmp 32) (.tmp 33) rfl rfl rfl (OwB.lit0 w5 _ (Nat.le_refl _)) (HT5.out.rd.below (R5.out.alloc (Nat.le_refl _) _)) (R5.out.alloc (Nat.le_refl _) _) ?s6 ?l6 ?_; (case s6 => simp); (case l6 => omega); intro A6 n6 c6 w6 ho hb; have hL6 := ho.len; rw [List.nil_append] at ho; rw [List.nil_append, HT5.out.len] at hL6; subst hL6; have HW6 := Lib.hid ho; have HBW6 := Lib.hid (HBW5.out.trans (hb.mono HBW5.out.size)); have hs6 := hb.size; have HM6 := Lib.hid (HM5.out.below hb); have HO6 := Lib.hid (HO5.out.below hb); have HT6 := Lib.hid (HT5.out.below hb); have HR6 := Lib.hid (HR.out.below HBW6.out); have RM6 : Hid (RdB w6 (some ⟨g3, 0, none⟩) n xs) := Lib.hid (by have := HM6.out.rd.take n hn3; rwa [List.take_left' HR.out.len] at this); clear ho hb))
  refine (same_any _ _ _ _ _ _ _ _ _ RM6.out HR6.out).mono ?_
  rintro e w7 ⟨rfl, ⟨q, rfl⟩⟩
  rw [eqL_self]
  have HM7 := Lib.hid (HM6.out.drawn q)
  have HO7 := Lib.hid (HO6.out.drawn q)
  have HT7 := Lib.hid (HT6.out.drawn q)
  have HW7 := Lib.hid (HW6.out.drawn q)
  have HBW7 := Lib.hid (pw_below_drewN HBW6.out q)
  have hs7 : w6.heap.size = (w6.drewN q).heap.size := by simp
  generalize w6.drewN q = w7 at HM7 HO7 HT7 HW7 HBW7 hs7 ⊢
  have c71 := HM7.out.at_ n (by omega)
  have c77 := HM7.out.at_ (n + 6) (by omega)
  have h71 : (xs ++ [71, 72, 73, 74, 75, 76, 77]).getD n 0 = 71 := by simp [List.getD_eq_getElem?_getD, ← HR.out.len]
  have h77 : (xs ++ [71, 72, 73, 74, 75, 76, 77]).getD (n + 6) 0 = 77 := by simp [List.getD_eq_getElem?_getD, ← HR.out.len]
  rw [h71] at c71
  rw [h77] at c77
  obtain ⟨c71, _⟩ := c71
  obtain ⟨c77, _⟩ := c77
  clear h71 h77
  go_wp2
  have hs4e : w4.heap.size = w4.drew.heap.size := rfl
  have hK4 := OwB.blk HO4.out
  have LT := Lib.hid (OwB.lies HT5.out (Nat.le_refl _) (show w5.heap.size ≤ w7.heap.size by omega))
  have LW := Lib.hid (OwB.lies HW6.out hs5 (show w6.heap.size ≤ w7.heap.size by omega))
  have HK7 := Lib.hid (Band.refl (lo := w4.drew.heap.size) (Nat.le_refl w7.heap.size))
  have hg3lo : g3 < w4.drew.heap.size := by omega
  have hg3b : g3 < w3.drew.heap.size := by omega
  have hbw : w.heap.size ≤ w3.drew.heap.size := by omega
  have hgw : w.heap.size ≤ g3 := by omega
  have hK7 : Hid (∀ j, (Value.slice A4 n4 c4).ownBlock = some j → j < w4.drew.heap.size ∨ w7.heap.size ≤ j) := Lib.hid fun j hj => .inl (hK4 j hj).2
  have RT7 := Lib.hid HT7.out.rd
  have RW7 := Lib.hid HW7.out.rd
  have L3 : Hid (By [3]) := Lib.hid (By_of _ (by decide))
  clear hK4 HM5 HO5 HT5 HT6 HT7 HW6 HW7 HM6 HO6 HR6 RM6 HO4 HB5 R5 y0 y1 y2 y3 y4 c71 c77 HBW5 HBW6
  generalize w4.drew.heap.size = lo at *
  generalize w3.drew.heap.size = b3 at *
  go_loopw [9, 61] (fun _ i wr => ∃ (p : Nat) (zs : List Int), p ≤ n3 ∧ i = .int .i64 p ∧ Aside0 (OwB wr w1.heap.size (some ⟨g3, 0, none⟩) n3 c3 zs) ∧ Aside0 (OwB wr b3 A4 n4 c4 (xs ++ E)) ∧ Aside0 (Band lo w7.heap.size w7 wr) ∧ Aside0 (Below w.heap.size w wr)) (fun _ i _ => n3 - (intOf i).toNat)
  case atStart => exact ⟨0, _, by omega, rfl, ⟨HM7.out⟩, ⟨HO7.out⟩, ⟨HK7.out⟩, ⟨HBW7.out⟩⟩
  case round =>
    obtain ⟨p, zs, hp, rfl, HM8, HO8, HK8, HB8⟩ := hrel
    by_cases hlt : p < n3
    · obtain ⟨hcell, hfr⟩ := HM8.out.at_ p hlt
      generalize zs.getD p 0 = z at hcell
      have st := Aside0.mk (HM8.out.store p 1 ⟨by decide, by decide⟩)
      go_wp2
      go_roundw
      case rel => exact ⟨p + 1, _, by omega, by go_num, st, ⟨OwB.past HO8.out hg3b _ _⟩, ⟨HK8.out.set (.inl hg3lo) _ _⟩, ⟨HB8.out.setCell hgw _⟩⟩
      case measure => simp [intOf]; omega
    · go_wp2
      go_loopw [10, 70] (fun _ i wr2 => ∃ (p : Nat) (zs : List Int), p ≤ n4 ∧ i = .int .i64 p ∧ Aside0 (OwB wr2 b3 A4 n4 c4 zs) ∧ Aside0 (Band lo w7.heap.size w7 wr2) ∧ Aside0 (Below w.heap.size w wr2)) (fun _ i _ => n4 - (intOf i).toNat)
      case atStart => exact ⟨0, _, by omega, rfl, ⟨HO8.out⟩, ⟨HK8.out⟩, ⟨HB8.out⟩⟩
      case round =>
        obtain ⟨p2, zs2, hp2, rfl, HO9, HK9, HB9⟩ := hrel
        by_cases hlt2 : p2 < n4
        · obtain ⟨g4, rfl, hg4, hg4l⟩ := HL4.out (by omega)
          obtain ⟨hcell, hfr⟩ := HO9.out.at_ p2 hlt2
          generalize zs2.getD p2 0 = z at hcell
          have st := Aside0.mk (HO9.out.store p2 2 ⟨by decide, by decide⟩)
          have hgw4 : w.heap.size ≤ g4 := by omega
          have hg4lo : g4 < lo := by omega
          go_wp2
          go_roundw
          case rel => exact ⟨p2 + 1, _, by omega, by go_num, st, ⟨HK9.out.set (.inl hg4lo) _ _⟩, ⟨HB9.out.setCell hgw4 _⟩⟩
          case measure => simp [intOf]; omega
        · go_wp2
          go_loopw [11, 12] (fun o i wr3 => ∃ (p : Nat) (A8 : Option Addr) (n8 c8 : Nat) (zs : List Int), p ≤ 40 ∧ i = .int .i64 p ∧ o = .slice A8 n8 c8 ∧ n8 = n4 + p ∧ Aside0 (OwB wr3 w.heap.size A8 n8 c8 zs) ∧ Aside0 (Band lo w7.heap.size w7 wr3) ∧ Aside0 (Below w.heap.size w wr3) ∧ Aside0 (∀ j, (Value.slice A8 n8 c8).ownBlock = some j → j < lo ∨ w7.heap.size ≤ j)) (fun _ i _ => 40 - (intOf i).toNat)
          case atStart => exact ⟨0, A4, n4, c4, _, by omega, rfl, rfl, rfl, ⟨HO9.out.less hbw⟩, ⟨HK9.out⟩, ⟨HB9.out⟩, ⟨hK7.out⟩⟩
          case round =>
            obtain ⟨p3, A8, n8, c8, zs3, hp3, rfl, rfl, hn8, HO10, HK10, HB10, hK10⟩ := hrel
            by_cases hlt3 : p3 < 40
            · have hs10 := HB10.out.size
              go_wp2_with (first | (at_builtin; refine appG (w0 := w) (base := w.heap.size) (lo := lo) (hi := w7.heap.size) (wk := w7) rfl (.tmp 82) (.tmp 83) rfl rfl rfl (HO10.out.alloc _) (litB wr (0, 0) [3] (Nat.le_of_ble_eq_true rfl) L3.out) (HB10.out.alloc hs10 _) ?s11 ?l11 (HK10.out.alloc _) hK10.out ?_; (case s11 => simp; omega); (case l11 => simp; omega); intro A11 n11 c11 w11 ho hb hk hob; have HO11 := Aside0.mk ho; have HB11 := Aside0.mk hb; have HK11 := Aside0.mk hk; have hK11 := Aside0.mk hob; have hL11 := ho.len; rw [List.length_append, HO10.out.len] at hL11; have hL11' : n11 = n4 + (p3 + 1) := (by simp at hL11; omega); clear ho hb hk hob hL11; subst hL11'))
              go_roundw
              case rel => exact ⟨p3 + 1, A11, n4 + (p3 + 1), c11, _, by omega, by go_num, rfl, rfl, HO11, HK11, HB11, hK11⟩
              case measure => simp [intOf]; omega
            · have HB12 := HB10
              have RT12 := Lib.hid (RdB.band RT7.out LT.out HK10.out)
              have RW12 := Lib.hid (RdB.band RW7.out LW.out HK10.out)
              have hn40 : p3 = 40 := by omega
              subst hn40
              subst hn8
              go_wp2_with fail
              refine (same_any _ _ _ _ _ _ _ _ _ RT12.out RW12.out).mono ?_
              rintro e w13 ⟨rfl, ⟨q2, rfl⟩⟩
              rw [eqL_self]
              go_wp2
              go_ret
              exact ⟨rfl, pw_below_drewN HB12.out _⟩
end Go.Proofs.Ytjhoidookoageaa.wirel
