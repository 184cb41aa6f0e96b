/- The walk of the law PackMemory. -/
import Derived.Test.YtlbhmbbmpmhcjaaPackKeep
import Derived.StillTailTactics
import Derived.OpenShut
set_option linter.unusedVariables false
set_option linter.unusedSimpArgs false
namespace Go.Proofs.Ytlbhmbbmpmhcjaa.packl
open Go.RowKit Go.Proofs.YtlbhmbbmpmhcjaaW.PrintWords Go.Proofs.Ytlbhmbbmpmhcjaa.base Go.Proofs.Ytlbhmbbmpmhcjaa.mem Go.Proofs.Ytlbhmbbmpmhcjaa.packp Go.Proofs.Ytlbhmbbmpmhcjaa.packw Go.Proofs.Ytlbhmbbmpmhcjaa.samew Go.Proofs.Ytlbhmbbmpmhcjaa.rdr Go.Proofs.Ytlbhmbbmpmhcjaa.keep

set_option maxHeartbeats 4000000 in
set_option maxRecDepth 100000 in
theorem memoryLaw (A : Option Addr) (n c : Nat) (xs : List Int) (A' : Option Addr) (m c' : Nat) (zs : List Int) (w : World) (hr : RdB w A n xs) (_ : n ≤ c) (hn : n + 1 ≤ 1048576) (hz : ReadsInt w .i64 A' m zs) (hw : ∀ z ∈ zs, (Lit.int .i64 z).wf = true) (_ : m ≤ c') (hm : m + 1 ≤ 1048576) :
    Calls Try.prog 9 #[.slice A n c, .slice A' m c'] w fun e w' => e = .returned (.bool true) ∧ Below w.heap.size w w' := by
  have HR := Lib.hid hr
  have HZ := Lib.hid hz
  have hzl := hz.1
  have HW : Hid (∀ z ∈ zs, -9223372036854775808 ≤ z ∧ z ≤ 9223372036854775807) := Lib.hid fun z h => bounds_i64 (hw z h)
  have hE := encAll_len zs (fun z h => (HW.out z h).2)
  rw [hzl] at hE
  have L7 : Hid (By [71, 72, 73]) := Lib.hid (By_of _ (by decide))
  have hn' : n ≤ 1048576 := by omega
  have hm' : m ≤ 1048576 := by omega
  clear hr hz hw hzl hn hm
  go_enter Try.func9, Try.ntmps9
  go_wp2_with fail
  refine (wakes_any _).mono ?_
  rintro e w1 ⟨rfl, hb⟩
  have HB1 := Lib.hid hb
  have hs1 := hb.size
  have HR1 := Lib.hid (HR.out.below hb)
  have R1 := Lib.hid (Below.refl w1.heap.size w1)
  clear hb
  go_wp2_with (first | (at_builtin; refine app (w0 := w1) (base := w1.heap.size) rfl (.tmp 21) (.tmp 22) rfl rfl rfl (OwB.lit0 w1 _ (Nat.le_refl _)) (HR1.out.below (R1.out.alloc (Nat.le_refl _) _)) (R1.out.alloc (Nat.le_refl _) _) ?s2 ?l2 ?_; (case s2 => simp); (case l2 => omega); intro A2 n2 c2 w2 ho hb; have hL1 := ho.len; rw [List.nil_append] at ho; rw [List.nil_append, HR.out.len] at hL1; subst hL1; have HO2 := Lib.hid ho; have HB2 := Lib.hid hb; have hs2 := hb.size; clear ho hb) | (at_builtin; refine app (w0 := w1) (base := w1.heap.size) rfl (.tmp 23) (.tmp 24) rfl rfl rfl (HO2.out.alloc _) (litB w2 (0, 0) [71, 72, 73] (Nat.le_of_ble_eq_true rfl) L7.out) (HB2.out.alloc hs2 _) ?s3 ?l3 ?_; (case s3 => simp; omega); (case l3 => simp; omega); intro A3 n3 c3 w3 ho hb; have hL3 := ho.len; rw [List.length_append, HR.out.len] at hL3; have hL3a : n3 ≤ n + 3 := Nat.le_of_eq hL3.symm; have hL3b : n + 3 ≤ n3 := Nat.le_of_eq hL3; clear hL3; have hnc3 : n ≤ c3 := (by have := ho.cap; omega); obtain ⟨g3, rfl, hg3, hg3l⟩ := ho.form (by omega); have HM3 := Lib.hid ho; have HB3 := Lib.hid hb; have hs3 := hb.size; have HZ3 := Lib.hid (HZ.out.below (HB1.out.trans (hb.mono hs1))); have R3 := Lib.hid (Below.refl w3.heap.size w3); clear ho hb) | (at_builtin; refine appI (w0 := w3) (base := w3.heap.size) rfl (.tmp 26) (.tmp 27) rfl rfl rfl (OwI.lit0 w3 _ (Nat.le_refl _)) (HZ3.out.below (R3.out.alloc (Nat.le_refl _) _)) (R3.out.alloc (Nat.le_refl _) _) ?s4 ?l4 ?_; (case s4 => simp); (case l4 => omega); intro A4 n4 c4 w4 ho hb; have hL4 := ho.len; rw [List.nil_append] at ho; rw [List.nil_append, HZ.out.1] at hL4; subst hL4; have HN4 := Lib.hid ho; have HB4 := Lib.hid hb; have hs4 := hb.size; have HM4 := Lib.hid (HM3.out.below hb); clear ho hb))
  have hn3 : n ≤ n3 := by omega
  have rdM : Hid (∀ W, OwB W w1.heap.size (some ⟨g3, 0, none⟩) n3 c3 (xs ++ [71, 72, 73]) → RdB W (some ⟨g3, 0, none⟩) n xs) := Lib.hid fun W h => by have := h.rd.take n hn3; rwa [List.take_left' HR.out.len] at this
  refine (put_any _ _ _ _ _ _ _ _ _ (rdM.out _ HM4.out) HN4.out.rd HW.out (by omega)).mono ?_
  rintro e w5 ⟨A5, n5, c5, rfl, ho, hb⟩
  have hn5 := ho.len
  rw [List.length_append, HR.out.len] at hn5
  have HO5 := Lib.hid ho
  have hs5 := hb.size
  have HM5 := Lib.hid (HM4.out.below hb)
  have HN5 := Lib.hid (HN4.out.below hb)
  have HBW5 := Lib.hid (HB1.out.trans ((HB3.out.trans ((HB4.out.mono hs3).trans (hb.mono (Nat.le_trans hs3 hs4)))).mono hs1))
  have HL5 := Lib.hid (OwB.lies ho (Nat.le_refl _) (Nat.le_refl _))
  have HK5 := Lib.hid (OwB.blk ho)
  clear ho hb HO2 HB2 R1 HR1 HM3 HB3 HZ3 R3 HN4 HM4 HB4
  go_wp2_with fail
  refine (put_any _ _ _ _ _ _ _ _ _ (rdM.out _ HM5.out) HN5.out.rd HW.out (by omega)).mono ?_
  rintro e w6 ⟨A6, n6, c6, rfl, ho, hb⟩
  have hn6 := ho.len
  rw [List.length_append, HR.out.len] at hn6
  have HT6 := Lib.hid ho
  have hs6 := hb.size
  have HO6 := Lib.hid (HO5.out.below hb)
  have HM6 := Lib.hid (HM5.out.below hb)
  have HN6 := Lib.hid (HN5.out.below hb)
  have HBW6 := Lib.hid (HBW5.out.trans (hb.mono HBW5.out.size))
  have HL6 := Lib.hid (OwB.lies ho (Nat.le_refl _) (Nat.le_refl _))
  clear ho hb HO5 HM5 HN5 HBW5
  go_wp2_with fail
  refine (new_in _ _ _ _ _ (rdM.out _ HM6.out) (by omega)).mono ?_
  rintro e w7 ⟨r, rfl, hrd, hb⟩
  have HD7 := Lib.hid hrd
  have hs7 := hb.size
  have hr1 := hrd.1
  have hr2 := hrd.2.1
  have HT7 := Lib.hid (HT6.out.below hb)
  have HO7 := Lib.hid (HO6.out.below hb)
  have HM7 := Lib.hid (HM6.out.below hb)
  have HN7 := Lib.hid (HN6.out.below hb)
  have HBW7 := Lib.hid (HBW6.out.trans (hb.mono HBW6.out.size))
  clear hrd hb HT6 HO6 HM6 HN6
  go_wp2_with fail
  refine (new_in _ _ _ _ _ (rdM.out _ HM7.out) (by omega)).mono ?_
  rintro e w8 ⟨s, rfl, hsd, hb⟩
  have HS8 := Lib.hid hsd
  have hs8 := hb.size
  have hs81 := hsd.1
  have HD8 := Lib.hid (RdrIn.rdr (RdrIn.band HD7.out (Band.of_below hb)))
  have HT8 := Lib.hid (HT7.out.below hb)
  have HO8 := Lib.hid (HO7.out.below hb)
  have HM8 := Lib.hid (HM7.out.below hb)
  have HN8 := Lib.hid (HN7.out.below hb)
  have HBW8 := Lib.hid (HBW7.out.trans (hb.mono HBW7.out.size))
  have hw8 := HBW8.out.size
  have hw6 := HBW6.out.size
  clear hsd hb HT7 HO7 HM7 HN7 HBW7 HD7
  have HBY : Hid (rdr.bytes ⟨false, xs⟩ (n : Int) = (xs, ⟨false, []⟩)) := Lib.hid (by
    rw [bytes_in xs n (Nat.le_of_eq HR.out.len.symm), List.take_of_length_le (Nat.le_of_eq HR.out.len), List.drop_of_length_le (Nat.le_of_eq HR.out.len)])
  go_wp2_with fail
  refine (bytes_any r ⟨false, xs⟩ (n : Int) w8 HD8.out).mono ?_
  rw [HBY.out]
  rintro e w9 ⟨A9, n9, c9, rfl, ho, _, hg⟩
  have hn9 := ho.len
  rw [HR.out.len] at hn9
  subst hn9
  have HF9 := Lib.hid ho
  have HM9 := Lib.hid (OwB.otherR HM8.out HD8.out (by decide) hg)
  have HO9 := Lib.hid (OwB.otherR HO8.out HD8.out (by decide) hg)
  have HT9 := Lib.hid (OwB.otherR HT8.out HD8.out (by decide) hg)
  have HN9 := Lib.hid (OwI.otherR HN8.out HD8.out (by decide) hg)
  have HS9 := Lib.hid (RdrIn.band HS8.out ((Band.refl (Nat.le_refl _)).grown hg (fun j e => by cases e; exact .inl hr2)))
  have HBW9 := Lib.hid (HBW8.out.grown hg hw8 (fun j e => by cases e; omega))
  have hs9 := hg.size
  have HR9 := Lib.hid (HR.out.below HBW9.out)
  have HLF := Lib.hid (OwB.blk ho)
  have HLL := Lib.hid (OwB.lies ho (Nat.le_refl _) (Nat.le_refl _))
  clear ho hg HM8 HO8 HT8 HN8 HS8 HBW8 HD8 HBW6
  go_wp2_with fail
  refine (same_any _ _ _ _ _ _ _ _ _ (rdM.out _ HM9.out) HR9.out).mono ?_
  rintro e w10 ⟨rfl, ⟨q, rfl⟩⟩
  rw [eqL_self]
  have BQ := Lib.hid (pw_below_drewN (Below.refl w9.heap.size w9) q)
  generalize w9.drewN q = wa at BQ ⊢
  have HMa := Lib.hid (HM9.out.below BQ.out)
  have c71 := HMa.out.at_ n (by omega)
  have c72 := HMa.out.at_ (n + 1) (by omega)
  have c73 := HMa.out.at_ (n + 2) (by omega)
  have h71 : (xs ++ [71, 72, 73]).getD n 0 = 71 := by simp [List.getD_eq_getElem?_getD, ← HR.out.len]
  have h72 : (xs ++ [71, 72, 73]).getD (n + 1) 0 = 72 := by simp [List.getD_eq_getElem?_getD, ← HR.out.len]
  have h73 : (xs ++ [71, 72, 73]).getD (n + 2) 0 = 73 := by simp [List.getD_eq_getElem?_getD, ← HR.out.len]
  rw [h71] at c71
  rw [h72] at c72
  rw [h73] at c73
  obtain ⟨c71, _⟩ := c71
  obtain ⟨c72, _⟩ := c72
  obtain ⟨c73, _⟩ := c73
  clear h71 h72 h73 HMa
  go_wp2_with fail
  refine (same_any _ _ _ _ _ _ _ _ _ (HO9.out.below BQ.out).rd (HT9.out.below BQ.out).rd).mono ?_
  rintro e w10 ⟨rfl, ⟨q2, rfl⟩⟩
  rw [eqL_self]
  have B10 := Lib.hid (pw_below_drewN BQ.out q2)
  generalize wa.drewN q2 = w10 at B10 ⊢
  clear BQ c71 c72 c73
  go_wp2
  go_loopw [12, 102] (fun _ i wr => ∃ (k : Nat), k ≤ m ∧ i = .int .i64 k ∧ Aside0 (Below w9.heap.size w9 wr)) (fun _ i _ => m - (intOf i).toNat)
  case atStart => exact ⟨0, by omega, rfl, ⟨B10.out⟩⟩
  case round =>
    obtain ⟨k, hk, rfl, HB⟩ := hrel
    by_cases hlt : k < m
    · obtain ⟨g4, rfl, hc4⟩ := (HN9.out.below HB.out).at_ k hlt
      obtain ⟨ad, rfl, hall⟩ := (HZ.out.below (HBW9.out.trans (HB.out.mono HBW9.out.size))).2.2 (by omega)
      have hcz := hall k hlt
      clear hall
      generalize zs.getD k 0 = z at hc4 hcz
      have hzz : (z != z) = false := by simp
      go_wp2
      go_quiet (fail)
      go_wp2
      go_roundw
      case rel => exact ⟨k + 1, by omega, by go_num, ⟨pw_below_drewN HB.out _⟩⟩
      case measure => simp [intOf]; omega
    · have hsr := HB.out.size
      have RW := Lib.hid (Below.refl wr.heap.size wr)
      have HTr := Lib.hid (HT9.out.below HB.out)
      go_wp2_with (first | (at_builtin; refine app (w0 := wr) (base := wr.heap.size) rfl (.tmp 115) (.tmp 116) rfl rfl rfl (OwB.lit0 wr _ (Nat.le_refl _)) (HTr.out.rd.below (RW.out.alloc (Nat.le_refl _) _)) (RW.out.alloc (Nat.le_refl _) _) ?s11 ?l11 ?_; (case s11 => simp); (case l11 => omega); intro A11 n11 c11 w11 ho hb; have hL11 := ho.len; rw [List.nil_append] at ho; rw [List.nil_append, HTr.out.len] at hL11; subst hL11; have HWt := Lib.hid ho; have hs11 := hb.size; have B11 := Lib.hid (HB.out.trans (hb.mono hsr)); clear ho hb))
      have HBW11 := Lib.hid (HBW9.out.trans (B11.out.mono HBW9.out.size))
      have HM11 := Lib.hid (HM9.out.below B11.out)
      have HO11 := Lib.hid (HO9.out.below B11.out)
      have HT11 := Lib.hid (HT9.out.below B11.out).rd
      have HF11 := Lib.hid (HF9.out.below B11.out)
      have HS11 := Lib.hid ((RdrIn.band HS9.out ((Band.of_below B11.out).narrow hs9)).wide (show w5.heap.size ≤ w7.heap.size by omega) (Nat.le_refl _))
      have LT := Lib.hid (HL6.out.wide (Nat.le_refl _) (show w6.heap.size ≤ w11.heap.size by omega))
      have LW := Lib.hid ((OwB.lies HWt.out (Nat.le_refl _) (Nat.le_refl _)).wide (show w5.heap.size ≤ wr.heap.size by omega) (Nat.le_refl _))
      have LF := Lib.hid (HLL.out.wide (show w5.heap.size ≤ w8.heap.size by omega) (show w9.heap.size ≤ w11.heap.size by omega))
      have RW11 := Lib.hid HWt.out.rd
      have RF11 := Lib.hid HF11.out.rd
      have HK11 := Lib.hid (Band.refl (lo := w5.heap.size) (Nat.le_refl w11.heap.size))
      have hF : Hid (∀ j, (Value.slice A9 n c9).ownBlock = some j → w5.heap.size ≤ j ∧ j < w11.heap.size) := Lib.hid fun j hj => by have := HLF.out j hj; omega
      have hg3lo : g3 < w5.heap.size := by omega
      have hg3b : g3 < w4.heap.size := by omega
      have hbw : w.heap.size ≤ w4.heap.size := by omega
      have hbw8 : w.heap.size ≤ w8.heap.size := hw8
      have h58 : w8.heap.size ≤ w11.heap.size := by omega
      have hgw : w.heap.size ≤ g3 := by omega
      have hK11 : Hid (∀ j, (Value.slice A5 n5 c5).ownBlock = some j → j < w5.heap.size ∨ w11.heap.size ≤ j) := Lib.hid fun j hj => .inl (HK5.out j hj).2
      have L97 : Hid (By [97]) := Lib.hid (By_of _ (by decide))
      have HR11 := Lib.hid (HR.out.below HBW11.out)
      clear RW HTr HWt B11 HB B10 HM9 HO9 HT9 HN9 HF9 HS9 HBW9 HR9 HLF HLL HL6 HK5
      generalize encAll zs = YS at *
      go_loopw [14, 120] (fun _ i wr => ∃ (p : Nat) (zs : List Int), p ≤ n3 ∧ i = .int .i64 p ∧ Aside0 (OwB wr w1.heap.size (some ⟨g3, 0, none⟩) n3 c3 zs) ∧ Aside0 (OwB wr w4.heap.size A5 n5 c5 (xs ++ YS)) ∧ Aside0 (Band w5.heap.size w11.heap.size w11 wr) ∧ Aside0 (Below w.heap.size w wr)) (fun _ i _ => n3 - (intOf i).toNat)
      case atStart => exact ⟨0, _, by omega, rfl, ⟨HM11.out⟩, ⟨HO11.out⟩, ⟨HK11.out⟩, ⟨HBW11.out⟩⟩
      case round =>
        obtain ⟨p, zs1, hp, rfl, HM8, HO8, HK8, HB8⟩ := hrel
        by_cases hlt1 : p < n3
        · obtain ⟨hcell, hfr⟩ := HM8.out.at_ p hlt1
          generalize zs1.getD p 0 = z at hcell
          have st := Aside0.mk (HM8.out.store p 99 ⟨by decide, by decide⟩)
          go_wp2
          go_roundw
          case rel => exact ⟨p + 1, _, by omega, by go_num, st, ⟨OwB.past HO8.out hg3b _ _⟩, ⟨HK8.out.set (.inl hg3lo) _ _⟩, ⟨HB8.out.setCell hgw _⟩⟩
          case measure => simp [intOf]; omega
        · go_wp2
          go_loopw [15, 129] (fun _ i wr2 => ∃ (p : Nat) (zs : List Int), p ≤ n5 ∧ i = .int .i64 p ∧ Aside0 (OwB wr2 w4.heap.size A5 n5 c5 zs) ∧ Aside0 (Band w5.heap.size w11.heap.size w11 wr2) ∧ Aside0 (Below w.heap.size w wr2)) (fun _ i _ => n5 - (intOf i).toNat)
          case atStart => exact ⟨0, _, by omega, rfl, ⟨HO8.out⟩, ⟨HK8.out⟩, ⟨HB8.out⟩⟩
          case round =>
            obtain ⟨p2, zs2, hp2, rfl, HO9, HK9, HB9⟩ := hrel
            by_cases hlt2 : p2 < n5
            · obtain ⟨g4, rfl, hg4, hg4l⟩ := HL5.out (by omega)
              obtain ⟨hcell, hfr⟩ := HO9.out.at_ p2 hlt2
              generalize zs2.getD p2 0 = z at hcell
              have st := Aside0.mk (HO9.out.store p2 98 ⟨by decide, by decide⟩)
              have hgw4 : w.heap.size ≤ g4 := by omega
              have hg4lo : g4 < w5.heap.size := by omega
              go_wp2
              go_roundw
              case rel => exact ⟨p2 + 1, _, by omega, by go_num, st, ⟨HK9.out.set (.inl hg4lo) _ _⟩, ⟨HB9.out.setCell hgw4 _⟩⟩
              case measure => simp [intOf]; omega
            · go_wp2
              go_loopw [16, 17] (fun o i wr3 => ∃ (p : Nat) (A8 : Option Addr) (n8 c8 : Nat) (zs : List Int), p ≤ 40 ∧ i = .int .i64 p ∧ o = .slice A8 n8 c8 ∧ n8 = n5 + p ∧ Aside0 (OwB wr3 w.heap.size A8 n8 c8 zs) ∧ Aside0 (Band w5.heap.size w11.heap.size w11 wr3) ∧ Aside0 (Below w.heap.size w wr3) ∧ Aside0 (∀ j, (Value.slice A8 n8 c8).ownBlock = some j → j < w5.heap.size ∨ w11.heap.size ≤ j)) (fun _ i _ => 40 - (intOf i).toNat)
              case atStart => exact ⟨0, A5, n5, c5, _, by omega, rfl, rfl, rfl, ⟨HO9.out.less hbw⟩, ⟨HK9.out⟩, ⟨HB9.out⟩, ⟨hK11.out⟩⟩
              case round =>
                obtain ⟨p3, A8, n8, c8, zs3, hp3, rfl, rfl, hn8, HO10, HK10, HB10, hK10⟩ := hrel
                by_cases hlt3 : p3 < 40
                · have hs10 := HB10.out.size
                  go_wp2_with (first | (at_builtin; refine appG (w0 := w) (base := w.heap.size) (lo := w5.heap.size) (hi := w11.heap.size) (wk := w11) rfl (.tmp 141) (.tmp 142) rfl rfl rfl (HO10.out.alloc _) (litB _ (0, 0) [97] (Nat.le_of_ble_eq_true rfl) L97.out) (HB10.out.alloc hs10 _) ?s12 ?l12 (HK10.out.alloc _) hK10.out ?_; (case s12 => simp; omega); (case l12 => simp; omega); intro A12 n12 c12 w12 ho hb hk hob; have HO12 := Aside0.mk ho; have HB12 := Aside0.mk hb; have HK12 := Aside0.mk hk; have hK12 := Aside0.mk hob; have hL12 := ho.len; rw [List.length_append, HO10.out.len] at hL12; have hL12' : n12 = n5 + (p3 + 1) := (by simp at hL12; omega); clear ho hb hk hob hL12; subst hL12'))
                  go_roundw
                  case rel => exact ⟨p3 + 1, A12, n5 + (p3 + 1), c12, _, by omega, by go_num, rfl, rfl, HO12, HK12, HB12, hK12⟩
                  case measure => simp [intOf]; omega
                · have RT := Lib.hid (RdB.band HT11.out LT.out HK10.out)
                  have RWt := Lib.hid (RdB.band RW11.out LW.out HK10.out)
                  have RF := Lib.hid (RdB.band RF11.out LF.out HK10.out)
                  have RR := Lib.hid (HR.out.below HB10.out)
                  have HFo := Lib.hid (OwB.band HF11.out hF.out HK10.out)
                  have hn40 : p3 = 40 := by omega
                  subst hn40
                  subst hn8
                  go_wp2_with fail
                  refine (same_any _ _ _ _ _ _ _ _ _ RT.out RWt.out).mono ?_
                  rintro e w13 ⟨rfl, ⟨q3, rfl⟩⟩
                  rw [eqL_self]
                  go_wp2_with fail
                  refine (same_any _ _ _ _ _ _ _ _ _ (RF.out.drawn _) (RR.out.drawn _)).mono ?_
                  rintro e w14 ⟨rfl, ⟨q4, rfl⟩⟩
                  rw [eqL_self]
                  have BD := pw_below_drewN (pw_below_drewN (Below.refl wr.heap.size wr) q3) q4
                  have HFd := Lib.hid (HFo.out.below BD)
                  have HBd := Lib.hid (HB10.out.trans (BD.mono HB10.out.size))
                  have HKd := Lib.hid ((HK10.out.below BD).narrow h58)
                  generalize (wr.drewN q3).drewN q4 = w14 at HFd HBd HKd ⊢
                  clear BD RT RWt RF RR HFo
                  go_wp2
                  go_loopw [18, 156] (fun _ i wr4 => ∃ (p : Nat) (zs : List Int), p ≤ n ∧ i = .int .i64 p ∧ Aside0 (OwB wr4 w8.heap.size A9 n c9 zs) ∧ Aside0 (Band w5.heap.size w8.heap.size w11 wr4) ∧ Aside0 (Below w.heap.size w wr4)) (fun _ i _ => n - (intOf i).toNat)
                  case atStart => exact ⟨0, _, by omega, rfl, ⟨HFd.out⟩, ⟨HKd.out⟩, ⟨HBd.out⟩⟩
                  case round =>
                    obtain ⟨p5, zs5, hp5, rfl, HF15, HK15, HB15⟩ := hrel
                    by_cases hlt5 : p5 < n
                    · obtain ⟨g9, rfl, hg9, hg9l⟩ := HF15.out.form (by omega)
                      obtain ⟨hcell, hfr⟩ := HF15.out.at_ p5 hlt5
                      generalize zs5.getD p5 0 = z at hcell
                      have st := Aside0.mk (HF15.out.store p5 55 ⟨by decide, by decide⟩)
                      have hgw9 : w.heap.size ≤ g9 := by omega
                      go_wp2
                      go_roundw
                      case rel => exact ⟨p5 + 1, _, by omega, by go_num, st, ⟨HK15.out.set (.inr hg9) _ _⟩, ⟨HB15.out.setCell hgw9 _⟩⟩
                      case measure => simp [intOf]; omega
                    · have HSd := Lib.hid (RdrIn.band HS11.out HK15.out)
                      have HRd := Lib.hid (HR.out.below HB15.out)
                      have HBe := Lib.hid HB15.out
                      have hse := HBe.out.size
                      go_wp2_with fail
                      refine (bytes_any s ⟨false, xs⟩ (n : Int) _ (RdrIn.rdr HSd.out)).mono ?_
                      rw [HBY.out]
                      rintro e w16 ⟨A16, n16, c16, rfl, ho, hsr2, hg⟩
                      have HO16 := Lib.hid ho.rd
                      have HS16 := Lib.hid hsr2
                      have HB16 := Lib.hid (HBe.out.grown hg hse (fun j e => by cases e; omega))
                      have HR16 := Lib.hid (HR.out.below HB16.out)
                      clear ho hsr2 hg
                      go_wp2_with fail
                      refine (same_any _ _ _ _ _ _ _ _ _ HO16.out HR16.out).mono ?_
                      rintro e w17 ⟨rfl, ⟨q5, rfl⟩⟩
                      rw [eqL_self]
                      have HS17 := Lib.hid (HS16.out.below (pw_below_drewN (Below.refl _ _) q5))
                      have HB17 := Lib.hid (pw_below_drewN HB16.out q5)
                      generalize w16.drewN q5 = w17 at HS17 HB17 ⊢
                      go_wp2_with fail
                      refine (end_any s ⟨false, []⟩ _ HS17.out).mono ?_
                      rintro e w18 ⟨rfl, rfl⟩
                      go_wp2
                      go_ret
                      exact ⟨rfl, HB17.out⟩
end Go.Proofs.Ytlbhmbbmpmhcjaa.packl
