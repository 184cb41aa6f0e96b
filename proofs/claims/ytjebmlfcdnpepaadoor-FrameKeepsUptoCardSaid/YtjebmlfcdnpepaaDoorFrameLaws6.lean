/- The walk of the law FrameKeeps. -/
import Derived.Test.YtjebmlfcdnpepaaDoorFrameLaws4
import Derived.Test.YtjebmlfcdnpepaaDoorFrameLaws2
import Derived.Test.YtjebmlfcdnpepaaDoorKeepP
import Derived.Test.YtjebmlfcdnpepaaDoorFrameKeepP
set_option linter.unusedVariables false
set_option linter.unusedSimpArgs false
namespace Go.Proofs.YtjebmlfcdnpepaaDoor.framel6
open Go.RowKit Go.Shelf Go.Proofs.YtjebmlfcdnpepaaDoorW.PrintWords Go.Proofs.YtjebmlfcdnpepaaDoor.base Go.Proofs.YtjebmlfcdnpepaaDoor.mem Go.Proofs.YtjebmlfcdnpepaaDoor.crcp Go.Proofs.YtjebmlfcdnpepaaDoor.crcw Go.Proofs.YtjebmlfcdnpepaaDoor.samew Go.Proofs.YtjebmlfcdnpepaaDoor.keep Go.Proofs.YtjebmlfcdnpepaaDoor.framep Go.Proofs.YtjebmlfcdnpepaaDoor.framew Go.Proofs.YtjebmlfcdnpepaaDoor.frameit Go.Proofs.YtjebmlfcdnpepaaDoor.framem Go.Proofs.YtjebmlfcdnpepaaDoor.framel Go.Proofs.YtjebmlfcdnpepaaDoor.framea Go.Proofs.YtjebmlfcdnpepaaDoor.framer Go.Proofs.YtjebmlfcdnpepaaDoor.framen Go.Proofs.YtjebmlfcdnpepaaDoor.framel3 Go.Proofs.YtjebmlfcdnpepaaDoor.framel4 Go.Proofs.YtjebmlfcdnpepaaDoor.framek

attribute [local go_sem] Oper.semAt_some
theorem own_kp {w w1 : World} {B n c : Nat} {A : Option Addr} {xs : List Int} {P : Nat → Prop} (h : OwB w B A n c xs) (hk : Kp P w w1) (hp : ∀ j, (Value.slice A n c).ownBlock = some j → P j) : OwB w1 B A n c xs := by
  refine ⟨⟨h.1.1, ?_⟩, h.2⟩
  rcases h.1.2 with hv | ⟨g, cap, cur, hv, h1, h2, h3⟩
  · exact .inl hv
  · refine .inr ⟨g, cap, cur, hv, h1, ?_, h3⟩
    rw [hk.2 g (hp g (by rw [hv]; rfl)) (Array.getElem?_eq_some_iff.1 h2).1]
    exact h2
theorem ownV_kp {w w1 : World} {B n c : Nat} {A : Option Addr} {cells : List Value} {P : Nat → Prop} (h : OwV w B A n c cells) (hk : Kp P w w1) (hp : ∀ j, (Value.slice A n c).ownBlock = some j → P j) : OwV w1 B A n c cells := by
  refine ⟨h.1, ?_⟩
  rcases h.2 with hv | ⟨g, cap, cur, hv, h1, h2, h3⟩
  · exact .inl hv
  · refine .inr ⟨g, cap, cur, hv, h1, ?_, h3⟩
    rw [hk.2 g (hp g (by rw [hv]; rfl)) (Array.getElem?_eq_some_iff.1 h2).1]
    exact h2
theorem Rws.mapP {W W' : World} {base : Nat} {cells : List Value} {xss : List (List Int)} (h : Rws W base cells xss) (hw : ∀ a m c ys, OwB W base a m c ys → OwB W' base a m c ys) : Rws W' base cells xss := h.map hw
theorem kt_past {lo hi p i : Nat} {W : World} (hw : hi ≤ W.heap.size) (hp : hi ≤ p) (hg : p ≠ 0) (v : Value) : KT lo hi W (W.setCell ⟨p, i, none⟩ v) :=
  ⟨(Band.refl hw).set (.inr hp) _ _, fun t i hi => by
    rw [World.cell?_setCell_other _ _ _ _ (by intro e; injection e with e; exact hg e)]
    exact t i hi, by simp [World.setCell]⟩
theorem xor_u8 (z : Int) : 0 ≤ Go.bits .xor .u8 z 255 ∧ Go.bits .xor .u8 z 255 ≤ 255 := by
  unfold Go.bits
  simp only [IntKind.wrap_u8]
  omega
set_option maxHeartbeats 8000000 in
set_option maxRecDepth 100000 in
theorem keepsLaw (A : Option Addr) (n c : Nat) (xss : List (List Int)) (w : World) (hr : RdBB w A n xss) (hc : n ≤ c) (hn : xss.flatten.length + n + 1 ≤ 1048576) (ht : Table w) :
    Calls Tryd.prog 6 #[.slice A n c] w fun e w' => e = .returned (.bool true) ∧ Below w.heap.size w w' := by
  have HR := Lib.hid hr
  have HT := Lib.hid ht
  have hnn : n ≤ 1048576 := by omega
  have hfl : xss.flatten.length ≤ 1048576 := by omega
  have HL := Lib.hid hr.1
  have HF := Lib.hid (fencs_len xss)
  have hg0 := Table.lt ht
  clear hr ht hn
  have HB0 := Lib.hid ((below_alloc (Below.refl w.heap.size w) (.cells #[.slice A n c] 29)).alloc (by simp) (.cells #[.bool false] 4))
  have T0 : Hid (((w.alloc (.cells #[.slice A n c] 29)).alloc (.cells #[.bool false] 4)).cell? ⟨w.heap.size, 0, none⟩ = some (.slice A n c) ∧ ((w.alloc (.cells #[.slice A n c] 29)).alloc (.cells #[.bool false] 4)).cell? ⟨w.heap.size + 1, 0, none⟩ = some (.bool false) ∧ ((w.alloc (.cells #[.slice A n c] 29)).alloc (.cells #[.bool false] 4)).frozen? ⟨w.heap.size + 1, 0, none⟩ = false) :=
    Lib.hid ⟨by rw [World.cell?_alloc_past _ _ _ (by rw [World.size_alloc]; omega)]; simp, World.cell?_alloc_at _ _ _ _ (by simp), World.frozen?_alloc_at _ _ _ _ (by simp)⟩
  have hz0 : ((w.alloc (.cells #[.slice A n c] 29)).alloc (.cells #[.bool false] 4)).heap.size = w.heap.size + 1 + 1 := by simp
  have HT0 := Lib.hid (HT.out.below HB0.out)
  refine (callsIn_wide (n := 6)).1 ?_
  refine callsIn_of_wp_marks Tryd.func6 rfl trivial ?_ rfl
  simp only [Tryd.ntmps6, List.size_toArray, List.length_cons, List.length_nil, Nat.reduceAdd, Nat.reduceSub, Array.replicate_succ, Array.replicate_zero, List.push_toArray, List.append_toArray, List.nil_append, List.cons_append]
  refine wpIn_wide.2 ?_
  go_wp2_with fail
  generalize (w.alloc (.cells #[.slice A n c] 29)).alloc (.cells #[.bool false] 4) = w0 at HB0 T0 hz0 HT0 ⊢
  have hs0 := HB0.out.size
  refine (wakes_any _ HT0.out).mono ?_
  rintro e w1 ⟨rfl, hb⟩
  have HC1 := Lib.hid hb
  have hs1 := hb.size
  have y1 := pw_cell_below HC1.out T0.out.1
  clear hb
  go_wp2
  go_loopw [3, 24] (fun r i wr => ∃ (k : Nat) (A1 : Option Addr) (n1 c1 : Nat), k ≤ n ∧ i = .int .i64 k ∧ r = .slice A1 n1 c1 ∧ Aside0 (OwB wr w0.heap.size A1 n1 c1 (fencs (xss.take k))) ∧ Aside0 (Below w0.heap.size w0 wr)) (fun _ i _ => n - (intOf i).toNat)
  case atStart => exact ⟨0, none, 0, 0, by omega, rfl, rfl, ⟨OwB.nil _ _⟩, ⟨HC1.out⟩⟩
  case round =>
    obtain ⟨k, A1, n1, c1, hk, rfl, rfl, HO, HB⟩ := hrel
    have hs := HB.out.size
    have HW := Lib.hid (HB0.out.trans (HB.out.mono hs0))
    have hn1 := HO.out.len
    rw [fencs_len] at hn1
    have htf := take_flat xss k
    rw [List.length_take, HL.out] at hn1
    have hn1' : n1 ≤ 9437184 := by omega
    clear hn1 htf
    by_cases hlt : k < n
    · obtain ⟨ad, rfl, a2, m2, cp, hcell, hc2, hrow⟩ := (HR.out.below HW.out).at_ k hlt
      have hpl := flat_le (xss := xss) (k := k) (by rw [HL.out]; exact hlt)
      rw [hrow.len] at hpl
      have HS := Lib.hid (take_snoc2 xss k (by rw [HL.out]; exact hlt))
      have HFl := Lib.hid (fenc_len (xss.getD k []))
      rw [hrow.len] at HFl
      have HE := Lib.hid (fun A3 c3 W (h : RdB W A3 m2 (xss.getD k [])) (h3 : m2 ≤ c3) (ht : Table W) => encodeO A3 m2 c3 _ W h h3 (by omega) ht)
      generalize xss.getD k [] = p at HE HS HFl hrow
      have HP := Lib.hid hrow
      have R0 := Lib.hid (Below.refl wr.heap.size wr)
      have L7 : Hid (By [71, 72]) := Lib.hid (By_of _ (by decide))
      have hbk : Hid (∀ j, (Value.slice A1 n1 c1).ownBlock = some j → j < wr.heap.size) := Lib.hid fun j hj => (OwB.blk HO.out j hj).2
      clear hrow
      unfold RetO at HE
      go_wp2_with (first | (at_builtin; refine app (w0 := wr) (base := wr.heap.size) rfl (.tmp 28) (.tmp 29) rfl rfl rfl (OwB.lit0 wr _ (Nat.le_refl _)) (HP.out.below (R0.out.alloc (Nat.le_refl _) _)) (R0.out.alloc (Nat.le_refl _) _) ?s2 ?l2 ?_; (case s2 => simp); (case l2 => omega); intro A2 n2 c2 w2 ho hb; have hL := ho.len; rw [List.nil_append] at ho; rw [List.nil_append, HP.out.len] at hL; subst hL; have HO2 := Lib.hid ho; have HB2 := Lib.hid hb; have hs2 := hb.size; clear ho hb) | (at_builtin; refine app (w0 := wr) (base := wr.heap.size) rfl (.tmp 30) (.tmp 31) rfl rfl rfl (HO2.out.alloc _) (litB w2 (0, 0) [71, 72] (Nat.le_of_ble_eq_true rfl) L7.out) (HB2.out.alloc hs2 _) ?s3 ?l3 ?_; (case s3 => simp; omega); (case l3 => simp; omega); intro A3 n3 c3 w3 ho hb; have HO3 := Lib.hid ho; have HB3 := Lib.hid hb; have hl3 := ho.len; have hs3 := hb.size; have hc3 := ho.cap; rw [List.length_append, HP.out.len] at hl3; simp only [List.length_cons, List.length_nil] at hl3; have hn3a : m2 + 2 ≤ n3 := (by omega); have hn3b : n3 ≤ m2 + 2 := (by omega); clear hl3; have hm3 : m2 ≤ c3 := (by omega); have hm3i : (m2 : Int) ≤ (c3 : Int) := (by omega); clear ho hb) | fail)
      have hmn : m2 ≤ n3 := by omega
      have HX3 : Hid (∀ W, OwB W wr.heap.size A3 n3 c3 (p ++ [71, 72]) → RdB W A3 m2 p) := Lib.hid fun W h => by have := h.rd.take m2 hmn; rwa [List.take_left' HP.out.len] at this
      have HC3 := Lib.hid (HB.out.trans (HB3.out.mono hs))
      refine (HE.out A3 c3 w3 (HX3.out _ HO3.out) hm3 (HT0.out.below HC3.out)).mono ?_
      rintro e w4 ⟨A4, n4, c4, rfl, ho4, hb4⟩
      have HC4 := Lib.hid (HC3.out.trans (hb4.mono HC3.out.size))
      have HO4 := Lib.hid ho4
      have HOx := Lib.hid (HO3.out.below hb4)
      have HOb := Lib.hid (HO.out.below (HB3.out.trans (hb4.mono hs3)))
      have hl4 := ho4.len
      rw [HFl.out] at hl4
      have hn4 : n4 ≤ 8 + m2 := Nat.le_of_eq hl4.symm
      have hs4 := hb4.size
      have CS4 := Lib.hid (same_any A3 m2 c3 p a2 m2 cp p w4 (HX3.out _ HOx.out) (HP.out.below (HB3.out.trans (hb4.mono hs3))))
      rw [eqL_self] at CS4
      clear ho4 hb4 hl4
      go_wp2_with fail
      refine CS4.out.mono ?_
      rintro e w5 ⟨rfl, hd5⟩
      have hb5 := hd5.below
      have HC5 := Lib.hid (HC4.out.trans (hb5.mono HC4.out.size))
      have HO5 := Lib.hid (HO4.out.below hb5)
      have HOx5 := Lib.hid (HOx.out.below hb5)
      have HOb5 := Lib.hid (HOb.out.below hb5)
      obtain ⟨g3, rfl, hg3, hg3l⟩ := HOx5.out.form (by omega)
      have c71 := (HOx5.out.at_ m2 (by omega)).1
      have h71 : (p ++ [71, 72]).getD m2 0 = 71 := by simp [List.getD_eq_getElem?_getD, ← HP.out.len]
      rw [h71] at c71
      clear h71
      have hmm : m2 < n3 := by omega
      have hmmi : (m2 : Int) < (n3 : Int) := by omega
      have hgw : w0.heap.size ≤ g3 := Nat.le_trans hs hg3
      have hg43 : Hid (g3 < w3.heap.size) := Lib.hid (by
        obtain ⟨g', e', h1, h2⟩ := HO3.out.form (by omega)
        injection e' with e'
        injection e' with e'
        omega)
      clear hd5 hb5
      go_wp2
      clear c71
      go_loopw [9, 63] (fun _ li w6 => ∃ (j : Nat) (zs : List Int), j ≤ n3 ∧ li = .int .i64 j ∧ Aside0 (OwB w6 wr.heap.size (some ⟨g3, 0, none⟩) n3 c3 zs) ∧ Aside0 (OwB w6 w0.heap.size A1 n1 c1 (fencs (xss.take k))) ∧ Aside0 (OwB w6 w3.heap.size A4 n4 c4 (fenc p)) ∧ Aside0 (Below w0.heap.size w0 w6)) (fun _ li _ => n3 - (intOf li).toNat)
      case atStart => exact ⟨0, _, by omega, rfl, ⟨HOx5.out⟩, ⟨HOb5.out⟩, ⟨HO5.out⟩, ⟨HC5.out⟩⟩
      case round =>
        rename World => w6
        obtain ⟨j, zs, hj, rfl, HJx, HJb, HJf, HJB⟩ := hrel
        by_cases hlt2 : j < n3
        · obtain ⟨hcell2, hfr⟩ := HJx.out.at_ j hlt2
          generalize zs.getD j 0 = z at hcell2
          have st := Aside0.mk (HJx.out.store j 9 ⟨by decide, by decide⟩)
          have S1 := Aside0.mk (OwB.set_other HJb.out (g := g3) (fun q hq => by have := hbk.out q hq; omega) j (.int .u8 9))
          have S2 := Aside0.mk (OwB.past HJf.out (g := g3) hg43.out j (.int .u8 9))
          have S3 := Aside0.mk (HJB.out.setCell (p := ⟨g3, j, none⟩) hgw (.int .u8 9))
          go_wp2
          go_roundw
          case rel => exact ⟨j + 1, _, by omega, by go_num, st, S1, S2, S3⟩
          case measure => simp [intOf]; omega
        · have hs6 := HJB.out.size
          go_wp2_with (first | (at_builtin; refine app (w0 := w0) (base := w0.heap.size) rfl (.tmp 70) (.tmp 71) rfl rfl rfl (HJb.out) (HJf.out.rd) (HJB.out) ?s7 ?l7 ?_; (case s7 => exact hs6); (case l7 => omega); intro A7 n7 c7 w7 ho hb; have HO7 := Lib.hid ho; have HB7 := Lib.hid hb; clear ho hb))
          go_roundw
          case rel => exact ⟨k + 1, A7, n7, c7, by omega, by go_num, rfl, ⟨by rw [HS.out, fencs_snoc]; exact HO7.out⟩, ⟨HB7.out⟩⟩
          case measure => simp [intOf]; omega
    · obtain rfl : k = n := by omega
      have HO1 : Hid (OwB wr w0.heap.size A1 n1 c1 (fencs xss)) := Lib.hid (by have := HO.out; rwa [List.take_of_length_le (by rw [HL.out]; omega)] at this)
      have hP : pays (fencs xss) = xss := by
        have h := (P_fencs xss [] (fun p hp => Nat.le_trans (flat_mem hp) hfl)).1
        rw [List.append_nil] at h
        rw [pays_P, h, (P_stop (xs := []) rfl).1, List.append_nil]
      have HPA := Lib.hid hP
      clear HO hP
      have hn1'' : n1 ≤ 1099511627776 := by omega
      go_wp2_with fail
      refine (frames_any A1 n1 c1 (fencs xss) wr HO1.out.rd (by omega)).mono ?_
      rintro e w2 ⟨Bs, rfl, hN, hb⟩
      have HN2 := Lib.hid hN
      have HC2 := Lib.hid (HB.out.trans (hb.mono hs))
      have hs2 := hb.size
      have HO2 := Lib.hid (HO1.out.below hb)
      clear hN hb
      go_wp2_with fail
      refine (all_any A1 n1 c1 (fencs xss) w2 HO2.out.rd hn1'' (HT0.out.below HC2.out)).mono ?_
      rintro e w3 ⟨A3, n3, c3, cells3, rfl, hov3, hrw3, hb⟩
      rw [HPA.out] at hrw3
      have hl3 := hov3.len
      rw [hrw3.len, HL.out] at hl3
      have hn3a : n3 ≤ k := Nat.le_of_eq hl3.symm
      have hn3b : k ≤ n3 := Nat.le_of_eq hl3
      have HV3 := Lib.hid hov3
      have HR3 := Lib.hid hrw3
      have HC3 := Lib.hid (HC2.out.trans (hb.mono HC2.out.size))
      have HN3 := Lib.hid (HN2.out.band (bandBelow hb (Nat.le_refl _)))
      have HO3 := Lib.hid (HO2.out.below hb)
      have hs3 := hb.size
      clear hov3 hrw3 hb hl3
      go_wp2_with fail
      refine (all_any A1 n1 c1 (fencs xss) w3 HO3.out.rd hn1'' (HT0.out.below HC3.out)).mono ?_
      rintro e w4 ⟨A4, n4, c4, cells4, rfl, hov4, hrw4, hb⟩
      rw [HPA.out] at hrw4
      have hl4 := hov4.len
      rw [hrw4.len, HL.out] at hl4
      have hn4a : n4 ≤ k := Nat.le_of_eq hl4.symm
      have hn4b : k ≤ n4 := Nat.le_of_eq hl4
      have HV4 := Lib.hid hov4
      have HR4 := Lib.hid hrw4
      have HC4 := Lib.hid (HC3.out.trans (hb.mono HC3.out.size))
      have HN4 := Lib.hid (HN3.out.band (bandBelow hb (by omega)))
      have HO4 := Lib.hid (HO3.out.below hb)
      have hs4 := hb.size
      have HV34 := Lib.hid (HV3.out.below hb)
      have HR34 := Lib.hid (HR3.out.map fun _ _ _ _ h => h.below hb)
      clear hov4 hrw4 hb hl4
      have hns := nilSeq
      have y4 := pw_cell_below HC4.out T0.out.1
      have HX4 := Lib.hid (OwV.rd HV34.out HR34.out.of (by omega))
      have HPW := Lib.hid (HR.out.below (HB0.out.trans (HC4.out.mono hs0)))
      have CAK := Lib.hid (alike_any A3 n3 c3 xss A k c xss w4 HX4.out HPW.out)
      rw [eqLL_self] at CAK
      go_wp2_with fail
      refine CAK.out.mono ?_
      rintro e w5 ⟨rfl, hd5⟩
      have hb5 := hd5.below
      have HC5 := Lib.hid (HC4.out.trans (hb5.mono HC4.out.size))
      have HO5 := Lib.hid (HO4.out.below hb5)
      have HV5 := Lib.hid (HV34.out.below hb5)
      have HR5 := Lib.hid (HR34.out.map fun _ _ _ _ h => h.below hb5)
      have hbk : Hid (∀ j, (Value.slice A1 n1 c1).ownBlock = some j → w0.heap.size ≤ j ∧ j < wr.heap.size) := Lib.hid (OwB.blk HO1.out)
      have hz45 := hb5.size
      clear hd5 hns y4
      go_wp2
      go_loopw [13, 90] (fun _ li w6 => ∃ (j : Nat) (zs : List Int), j ≤ n1 ∧ li = .int .i64 j ∧ Aside0 (OwB w6 w0.heap.size A1 n1 c1 zs) ∧ Aside0 (Kp (fun i => wr.heap.size ≤ i) w5 w6) ∧ Aside0 (Below w0.heap.size w0 w6)) (fun _ li _ => n1 - (intOf li).toNat)
      case atStart => exact ⟨0, _, by omega, rfl, ⟨HO5.out⟩, ⟨Kp.refl _⟩, ⟨HC5.out⟩⟩
      case round =>
        rename World => w6
        obtain ⟨j, zs, hj, rfl, HJb, HJk, HJB⟩ := hrel
        by_cases hlt3 : j < n1
        · obtain ⟨g1, rfl, _, _⟩ := HJb.out.form (by omega)
          have hg1 := hbk.out g1 rfl
          obtain ⟨hcell, hfr⟩ := HJb.out.at_ j hlt3
          generalize zs.getD j 0 = z at hcell
          have st := Aside0.mk (HJb.out.store j (Go.bits .xor .u8 z 255) (xor_u8 z))
          have S1 := Aside0.mk (HJk.out.set (g := g1) (show ¬ wr.heap.size ≤ g1 by omega) j (.int .u8 (Go.bits .xor .u8 z 255)))
          have S2 := Aside0.mk (HJB.out.setCell (p := ⟨g1, j, none⟩) hg1.1 (.int .u8 (Go.bits .xor .u8 z 255)))
          go_wp2
          go_roundw
          case rel => exact ⟨j + 1, _, by omega, by go_num, st, S1, S2⟩
          case measure => simp [intOf]; omega
        · have hz5 := HJk.out.1
          have hz56 := HJB.out.size
          have HK6 := Lib.hid (HJk.out.mono (Q := fun i => wr.heap.size ≤ i) fun _ _ h => h)
          have HV6 : Hid (OwV w6 w2.heap.size A3 n3 c3 cells3) := Lib.hid (ownV_kp HV5.out HK6.out fun j hj => by have := (OwV.blk HV5.out j hj).1; omega)
          have HR6 : Hid (Rws w6 w2.heap.size cells3 xss) := Lib.hid (Rws.mapP HR5.out fun a m c ys h => own_kp h HK6.out fun j hj => by have := (OwB.blk h j hj).1; omega)
          have HAP : Hid (Apart cells3) := Lib.hid HR3.out.apart
          have HBK : Hid (∀ (i : Nat) (a : Option Addr) (m c g : Nat), cells3[i]? = some (Value.slice a m c) → (Value.slice a m c).ownBlock = some g → w2.heap.size ≤ g ∧ g < w3.heap.size) := Lib.hid fun i a m c g hi hg => by
            obtain ⟨a', m', c', e, ho⟩ := HR3.out.at_ i (by rw [← HR3.out.len]; exact (List.getElem?_eq_some_iff.1 hi).1)
            rw [hi] at e
            cases e
            exact OwB.blk ho g hg
          have HBV : Hid (∀ g, (Value.slice A3 n3 c3).ownBlock = some g → w2.heap.size ≤ g ∧ g < w3.heap.size) := Lib.hid (OwV.blk HV3.out)
          have HB6 := Lib.hid HJB.out
          clear HJk HJB HJb
          go_wp2
          go_loopw [14, 102] (fun _ i w7 => ∃ (q : Nat) (cells : List Value), q ≤ n3 ∧ i = .int .i64 q ∧ Aside0 (OwV w7 w2.heap.size A3 n3 c3 cells) ∧ Aside0 (RK w7 w2.heap.size q cells cells3 xss) ∧ Aside0 (Kp (fun i => i < w2.heap.size ∨ w3.heap.size ≤ i) w6 w7) ∧ Aside0 (Below w0.heap.size w0 w7)) (fun _ i _ => n3 - (intOf i).toNat)
          case atStart => exact ⟨0, _, by omega, rfl, ⟨HV6.out⟩, ⟨RK.of HR6.out⟩, ⟨Kp.refl _⟩, ⟨HB6.out⟩⟩
          case round =>
            rename World => w7
            obtain ⟨q, cells, hq, rfl, HV7, HR7, HK7, HB7⟩ := hrel
            have hz7 := HB7.out.size
            have hz67 := HK7.out.1
            by_cases hlt4 : q < n3
            · obtain ⟨a, m, cc, he, ho⟩ := HR7.out.own q (Nat.le_refl _) (by rw [HL.out]; omega)
              have hec : cells[q]? = some (.slice a m cc) := (HR7.out.same q (Nat.le_refl _)).trans he
              have hpl := flat_le (xss := xss) (k := q) (by rw [HL.out]; omega)
              rw [ho.len] at hpl
              generalize xss.getD q [] = p at ho
              obtain ⟨g3, rfl⟩ := OwV.form HV7.out (by omega)
              have HE := Lib.hid he
              have HEC := Lib.hid hec
              have hd := (OwV.at_ HV7.out q hec).1
              have HO7 := Lib.hid ho
              have HN7 := Lib.hid HR7.out.next
              have hgv := HBV.out g3 rfl
              clear he hec ho
              go_wp2
              clear hd
              go_loopw [15, 110] (fun _ li w8 => ∃ (j : Nat) (zs : List Int), j ≤ m ∧ li = .int .i64 j ∧ Aside0 (OwB w8 w2.heap.size a m cc zs) ∧ Aside0 (OwV w8 w2.heap.size (some ⟨g3, 0, none⟩) n3 c3 cells) ∧ Aside0 (RK w8 w2.heap.size (q + 1) cells cells3 xss) ∧ Aside0 (Kp (fun i => i < w2.heap.size ∨ w3.heap.size ≤ i) w6 w8) ∧ Aside0 (Below w0.heap.size w0 w8)) (fun _ li _ => m - (intOf li).toNat)
              case atStart => exact ⟨0, _, by omega, rfl, ⟨HO7.out⟩, ⟨HV7.out⟩, ⟨HN7.out⟩, ⟨HK7.out⟩, ⟨HB7.out⟩⟩
              case round =>
                rename World => w8
                obtain ⟨j, zs, hj, rfl, HO8, HV8, HR8, HK8, HB8⟩ := hrel
                have hd := (OwV.at_ HV8.out q HEC.out).1
                by_cases hlt5 : j < m
                · obtain ⟨g1, rfl, _, _⟩ := HO8.out.form (by omega)
                  have hgb := HBK.out q _ _ _ g1 HE.out rfl
                  obtain ⟨hcell, hfr⟩ := HO8.out.at_ j hlt5
                  generalize zs.getD j 0 = z at hcell
                  have HST : Hid (∀ v : Int, 0 ≤ v ∧ v ≤ 255 → Aside0 (OwB (w8.setCell ⟨g1, j, none⟩ (.int .u8 v)) w2.heap.size (some ⟨g1, 0, none⟩) m cc (zs.set j v)) ∧ Aside0 (OwV (w8.setCell ⟨g1, j, none⟩ (.int .u8 v)) w2.heap.size (some ⟨g3, 0, none⟩) n3 c3 cells) ∧ Aside0 (RK (w8.setCell ⟨g1, j, none⟩ (.int .u8 v)) w2.heap.size (q + 1) cells cells3 xss) ∧ Aside0 (Kp (fun i => i < w2.heap.size ∨ w3.heap.size ≤ i) w6 (w8.setCell ⟨g1, j, none⟩ (.int .u8 v))) ∧ Aside0 (Below w0.heap.size w0 (w8.setCell ⟨g1, j, none⟩ (.int .u8 v)))) := Lib.hid fun v hv =>
                    ⟨⟨HO8.out.store j v hv⟩, ⟨OwV.keptB HV8.out HO8.out (grownBy_set _ g1 j _) (fun g e => by cases e; rfl)⟩, ⟨HR8.out.set HAP.out HE.out j _⟩, ⟨HK8.out.set (g := g1) (by omega) j _⟩, ⟨HB8.out.setCell (p := ⟨g1, j, none⟩) (show w0.heap.size ≤ g1 by omega) _⟩⟩
                  go_wp2
                  go_roundw
                  case rel =>
                    refine ⟨j + 1, _, by omega, by go_num, HST.out _ ?_⟩
                    omega
                  case measure => simp [intOf]; omega
                · have hz8 := HB8.out.size
                  have hz68 := HK8.out.1
                  have L3 : Hid (By [1, 2, 3]) := Lib.hid (By_of _ (by decide))
                  go_wp2_with (at_builtin; ( refine appH (w0 := w8) (base := w2.heap.size) rfl (.tmp 127) (.tmp 128) rfl rfl rfl (HO8.out.alloc _) (litB w8 (0, 0) [1, 2, 3] (Nat.le_of_ble_eq_true rfl) L3.out) ((Below.refl _ _).alloc (by omega) _) ?s9 ?l9 ?_; (case s9 => simp; omega); (case l9 => simp; omega); intro A9 n9 c9 w9 ho hb hg hown; have HV9 := Lib.hid (OwV.keptB (own_alloc HV8.out _) (HO8.out.alloc _) hg (fun g e => e)); obtain ⟨hd9, hf9⟩ := OwV.at_ HV9.out q HEC.out; have HR9 := Lib.hid ((HR8.out.below (below_alloc (Below.refl _ _) _)).grown HAP.out HE.out hg (fun g e => e)); have HK9 := Lib.hid ((HK8.out.alloc _).grown hg (fun j e => by have := HBK.out q _ _ _ j HE.out e; rintro ⟨h1, h2⟩; omega)); have HB9 := Lib.hid (HB8.out.trans (hb.mono (show w0.heap.size ≤ w2.heap.size by omega))); clear ho hb hg hown))
                  go_wp2
                  go_roundw
                  case rel =>
                    exact ⟨q + 1, cells.set q (.slice A9 n9 c9), by omega, by go_num, ⟨OwV.store HV9.out q _⟩, ⟨(HR9.out.put _).head HV9.out q _⟩, ⟨HK9.out.set (g := g3) (by omega) q _⟩, ⟨HB9.out.setCell (p := ⟨g3, q, none⟩) (show w0.heap.size ≤ g3 by omega) _⟩⟩
                  case measure => simp [intOf]; omega
            · have HK57 : Hid (Kp (fun i => (wr.heap.size ≤ i ∧ i < w2.heap.size) ∨ w3.heap.size ≤ i) w5 w7) := Lib.hid ⟨Nat.le_trans HK6.out.1 HK7.out.1, fun i hi hlt => (HK7.out.2 i (by rcases hi with h | h; exact .inl h.2; exact .inr h) (Nat.lt_of_lt_of_le hlt HK6.out.1)).trans (HK6.out.2 i (by rcases hi with h | h <;> omega) hlt)⟩
              have hz57 := HK57.out.1
              have HN7 : Hid (NumsAt wr.heap.size w2.heap.size w7 Bs (fencs xss)) := Lib.hid ((HN4.out.band (bandBelow hb5 (by omega))).band ⟨by omega, fun i h1 h2 => HK57.out.2 i (.inl ⟨h1, h2⟩) (by omega)⟩)
              have HW7 : Hid (OwV w7 w3.heap.size A4 n4 c4 cells4) := Lib.hid (ownV_kp (OwV.below HV4.out hb5) HK57.out fun j hj => .inr (OwV.blk HV4.out j hj).1)
              have HQ7 : Hid (Rws w7 w3.heap.size cells4 xss) := Lib.hid ((HR4.out.map fun _ _ _ _ h => h.below hb5).map fun a m c ys h => own_kp h HK57.out fun j hj => .inr (OwB.blk h j hj).1)
              have HX7 := Lib.hid (OwV.rd HW7.out HQ7.out.of (by omega))
              have HB7' := Lib.hid (HB0.out.trans (HB7.out.mono hs0))
              have HP7 := Lib.hid (HR.out.below HB7'.out)
              have HT7 := Lib.hid (HT.out.below HB7'.out)
              have H7 : Hid (w7.cell? ⟨w.heap.size, 0, none⟩ = some (.slice A k c) ∧ w7.cell? ⟨w.heap.size + 1, 0, none⟩ = some (.bool false) ∧ w7.frozen? ⟨w.heap.size + 1, 0, none⟩ = false) :=
                Lib.hid ⟨pw_cell_below HB7.out T0.out.1, pw_cell_below HB7.out T0.out.2.1, (HB7.out.frozen (p := ⟨w.heap.size + 1, 0, none⟩) (by rw [hz0]; show w.heap.size + 1 < _; omega)).trans T0.out.2.2⟩
              clear HK57 HW7 HQ7 HV7 HR7 HK7 HV6 HR6 HK6 hb5 HV5 HR5 HO5 HX4 HPW CAK HV34 HR34 HO4 HN4 HO3 HN3 HV3 HR3 HO2 HN2 HBK HBV HAP
              obtain ⟨w8, hw8, hM8⟩ : ∃ w8, w7 = w8 ∧ FM w7 [] w8 := ⟨w7, rfl, Below.refl _ _, by simp⟩
              have HM1 := Lib.hid hM8
              have hs8 := hM8.1.size
              clear hM8
              go_wp2
              refine (wpIn_wide (n := 6)).1 ?_
              have PA1 : Hid (PC w8.heap.size 0 (w8.alloc (.cells #[.int .i64 0] 3))) := Lib.hid (PC.new w8 _ 0)
              have HMA1 := Lib.hid (HM1.out.below (below_alloc (Below.refl w8.heap.size w8) (.cells #[.int .i64 0] 3)))
              have hz1 : (w8.alloc (.cells #[.int .i64 0] 3)).heap.size = w8.heap.size + 1 := by simp
              generalize w8.alloc (.cells #[.int .i64 0] 3) = WA1 at PA1 HMA1 hz1 ⊢
              clear HM1 hw8
              generalize hpa1 : w8.heap.size = pA1 at PA1 hz1 hs8 ⊢
              clear hpa1
              have HFL : Hid ((flist (fencs xss)).length = k) := Lib.hid (by rw [← pays_len, HPA.out, HL.out])
              have hwA := HMA1.out.1.size
              generalize hlo7 : wr.heap.size = lo7 at HN7 ⊢
              have hlo7' : lo7 ≤ w2.heap.size := by omega
              refine' overF rfl (HN7.out.band (bandBelow HMA1.out.1 (by omega))) (by omega) (HT7.out.below HMA1.out.1) rfl
                (fun pre W => PC pA1 (pre.length : Nat) W ∧ FM w7 [] W)
                (fun _ _ _ => False)
                (fun z W W' row hs hg hr => ⟨hs.1.own hg (fun r e => (hr r e).2), hs.2.own hg hr (by omega) (fun D hD => by simp at hD)⟩)
                (fun _ _ _ _ _ h _ _ => h)
                ⟨PA1.out, HMA1.out⟩
                (fun W => PC pA1 (k : Nat) W ∧ FM w7 [] W) 0 _ ?assign1 ?body1 ?s1 ?p1 ?end1
              case assign1 =>
                intro l x W K hK
                gi_wp2
                exact hK
              case s1 =>
                rintro ys W hys ⟨h1, h3⟩
                have hyl : ys.length = k := by rw [← HFL.out, ← hys, List.length_map]
                exact ⟨by rw [← hyl]; exact h1, h3⟩
              case p1 =>
                rintro c pre W _ h
                exact h.elim
              case body1 =>
                rintro l pre x Wa W _ ⟨h1, h3⟩ hle hck hV
                have hlt : pre.length < k := by rw [← HFL.out]; exact V.lt hV
                have hBW := h3.1
                have c5 := pw_cell_below hBW H7.out.1
                obtain ⟨ad, rfl, a7, m7, c7, hel, hm7, hr7⟩ := (HP7.out.below hBW).at_ pre.length hlt
                have hpv := V.pays hV
                rw [HPA.out] at hpv
                rw [hpv] at hr7
                have HO := Lib.hid hV.2
                have HS : Hid (Calls Tryd.prog 12 #[.slice x.A x.n x.c, .slice a7 m7 c7] W fun e w' => e = .returned (.bool true) ∧ Drawn0 W w') := Lib.hid (by
                  have := same_any x.A x.n x.c _ a7 m7 c7 _ W HO.out.rd hr7
                  rwa [eqL_self] at this)
                have H1 := Lib.hid h1
                have H3 := Lib.hid h3
                have hxn := x.hn
                obtain ⟨p1, r1⟩ := h1
                generalize pay (fencs xss) x = zs0 at HO
                generalize hxl : pre ++ [x] = pre'
                have HXL : Hid ((pre'.length : Int) = (pre.length : Int) + 1) := Lib.hid (by rw [← hxl]; simp)
                obtain ⟨p, A5, n5, c5', hp5, hn5⟩ := x
                dsimp only at HS HO hxn
                clear hck hV hr7 hBW h3 hpv hxl
                gi_wp2_with (refine ⟨trivial, ?_⟩; gi_at_call 12; refine (CallsIn.inRound l (callsIn_wide.2 HS.out)).mono ?_; rintro e w' ⟨rfl, ⟨q, rfl⟩⟩)
                have HD := Lib.hid (pw_below_drewN (Below.refl W.heap.size W) q)
                have HOd := Lib.hid (HO.out.below HD.out)
                have HI : Hid (KeepsFrom WA1.heap.size W (W.drewN q) ∧ KT lo7 w2.heap.size W (W.drewN q) ∧ PC pA1 (pre.length : Nat) (W.drewN q) ∧ FM w7 [] (W.drewN q)) := Lib.hid ⟨framel2.keepsFrom_below HD.out, KT.below HD.out (by have := H3.out.1.size; omega), H1.out.below HD.out, H3.out.below HD.out⟩
                generalize W.drewN q = Wd at HOd HI ⊢
                gi_wp2
                gi_loopw [19, 150] (fun _ li wr => ∃ (j : Nat) (zs : List Int), j ≤ n5 ∧ li = .int .i64 j ∧ Aside0 (OwB wr Wa.heap.size A5 n5 c5' zs) ∧ Aside0 (KeepsFrom WA1.heap.size W wr ∧ KT lo7 w2.heap.size W wr ∧ PC pA1 (pre.length : Nat) wr ∧ FM w7 [] wr)) (fun _ li _ => n5 - (intOf li).toNat)
                case atStart => exact ⟨0, _, by omega, rfl, ⟨HOd.out⟩, ⟨HI.out⟩⟩
                case round =>
                  rename World => w9
                  obtain ⟨j, zs, hj, rfl, HO9, HI9⟩ := hrel
                  by_cases hlt2 : j < n5
                  · obtain ⟨g9, rfl, hg9, _⟩ := HO9.out.form (by omega)
                    obtain ⟨hcell2, hfr⟩ := HO9.out.at_ j hlt2
                    generalize zs.getD j 0 = z at hcell2
                    have st := Aside0.mk (HO9.out.store j 8 ⟨by decide, by decide⟩)
                    have hz9 := HI9.out.2.2.2.1.size
                    have S1 := Aside0.mk (show KeepsFrom WA1.heap.size W (w9.setCell ⟨g9, j, none⟩ (.int .u8 8)) ∧ KT lo7 w2.heap.size W (w9.setCell ⟨g9, j, none⟩ (.int .u8 8)) ∧ PC pA1 (pre.length : Nat) (w9.setCell ⟨g9, j, none⟩ (.int .u8 8)) ∧ FM w7 [] (w9.setCell ⟨g9, j, none⟩ (.int .u8 8)) from
                      ⟨HI9.out.1.trans (keepsFrom_set _ _), KT.trans HI9.out.2.1 (kt_past (by omega) (by omega) (by omega) _), ⟨by rw [World.cell?_setCell_other _ _ _ _ (by intro e; injection e with e; omega)]; exact HI9.out.2.2.1.1, by rw [World.frozen?_setCell]; exact HI9.out.2.2.1.2⟩, ⟨HI9.out.2.2.2.1.setCell (p := ⟨g9, j, none⟩) (show w7.heap.size ≤ g9 by omega) _, by simp⟩⟩)
                    gi_wp2
                    go_roundw
                    case rel => exact ⟨j + 1, _, by omega, by go_num, st, S1⟩
                    case measure => simp [intOf]; omega
                  · have HP9 := HI9.out.2.2.1
                    have HZ9 := Lib.hid HI9.out
                    obtain ⟨p9, r9⟩ := HP9
                    clear HI9
                    gi_wp2
                    have hz9 := HZ9.out.2.2.2.1.size
                    refine ⟨HZ9.out.1.trans (keepsFrom_set _ _), KT.trans HZ9.out.2.1 (kt_past (by omega) (by omega) (by omega) _), ?_, HZ9.out.2.2.2.set (by omega) (by simp) _⟩
                    have := HZ9.out.2.2.1.set ((pre.length : Int) + 1)
                    rw [HXL.out]
                    exact this
              case end1 =>
                rintro D1 V1 hDa1 ⟨hP, hM⟩ hK
                have hdp1 : pA1 < D1 := by omega
                have HM2 := Lib.hid (hM.more hK)
                have HBV1 := Lib.hid hM.1
                have hsV := hM.1.size
                have c5 := pw_cell_below hM.1 H7.out.1
                have c6 := pw_cell_below hM.1 H7.out.2.1
                have f6 := (hM.1.frozen (p := ⟨w.heap.size + 1, 0, none⟩) (by show w.heap.size + 1 < _; omega)).trans H7.out.2.2
                have HA : Hid (Calls Tryd.prog 15 #[.slice A4 n4 c4, .slice A k c] V1 fun e w' => e = .returned (.bool true) ∧ Drawn0 V1 w') := Lib.hid (by
                  have := alike_any A4 n4 c4 xss A k c xss V1 (HX7.out.below hM.1) (HP7.out.below hM.1)
                  rwa [eqLL_self] at this)
                obtain ⟨p1, r1⟩ := hP
                clear hM hK
                go_wp2_with fail
                refine HA.out.mono ?_
                rintro e w9 ⟨rfl, ⟨q9, rfl⟩⟩
                have hd9 := pw_below_drewN (Below.refl V1.heap.size V1) q9
                have x1 := pw_cell_below hd9 p1
                have x3 := pw_cell_below hd9 c6
                have x4 := (hd9.frozen (p := ⟨w.heap.size + 1, 0, none⟩) (by show w.heap.size + 1 < _; omega)).trans f6
                have hDlt := (Array.getElem?_eq_some_iff.1 (HM2.out.2 D1 (by simp))).1
                have HD9 := Lib.hid ((hd9.block D1 hDlt).trans (HM2.out.2 D1 (by simp)))
                have B9 := Lib.hid (HB7'.out.trans ((HBV1.out.trans (hd9.mono hsV)).mono (by omega)))
                clear c6 f6 p1 r1 hd9
                generalize V1.drewN q9 = w9 at x1 x3 x4 HD9 B9 ⊢
                go_wp2
                refine leavesAll w.heap.size [D1] _ (by simp) (by simp; omega) (fun D hD => ?_) (fun w' hcl hbl => ?_)
                · obtain rfl : D = D1 := by simpa using hD
                  rw [Below.heap_setCell _ _ _ _ (show D ≠ w.heap.size + 1 by omega)]
                  exact HD9.out
                · have hc5 := hcl (w.heap.size + 1) _ (World.cell?_setCell_same' w9 ⟨w.heap.size + 1, 0, none⟩ (.bool true) (by rw [x3]; rfl))
                  refine ⟨.bool true, ?_, rfl, (B9.out.setCell (p := ⟨w.heap.size + 1, 0, none⟩) (show w.heap.size ≤ w.heap.size + 1 by omega) _).trans hbl⟩
                  simp [results, Tryd.f6, go_sem, hc5]
end Go.Proofs.YtjebmlfcdnpepaaDoor.framel6
