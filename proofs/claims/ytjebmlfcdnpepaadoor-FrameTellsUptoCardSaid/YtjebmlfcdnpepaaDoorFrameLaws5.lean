/- The walk of the law FrameTells. -/
import Derived.Test.YtjebmlfcdnpepaaDoorFrameLaws4
import Derived.Test.YtjebmlfcdnpepaaDoorFramePure4
set_option linter.unusedVariables false
set_option linter.unusedSimpArgs false
namespace Go.Proofs.YtjebmlfcdnpepaaDoor.framel5
open Go.RowKit Go.Shelf Go.Proofs.YtjebmlfcdnpepaaDoorW.PrintWords Go.Proofs.YtjebmlfcdnpepaaDoor.base Go.Proofs.YtjebmlfcdnpepaaDoor.mem Go.Proofs.YtjebmlfcdnpepaaDoor.crcp Go.Proofs.YtjebmlfcdnpepaaDoor.crcw Go.Proofs.YtjebmlfcdnpepaaDoor.samew Go.Proofs.YtjebmlfcdnpepaaDoor.keep Go.Proofs.YtjebmlfcdnpepaaDoor.framep Go.Proofs.YtjebmlfcdnpepaaDoor.framew Go.Proofs.YtjebmlfcdnpepaaDoor.frameit Go.Proofs.YtjebmlfcdnpepaaDoor.framem Go.Proofs.YtjebmlfcdnpepaaDoor.framel Go.Proofs.YtjebmlfcdnpepaaDoor.framea Go.Proofs.YtjebmlfcdnpepaaDoor.framer Go.Proofs.YtjebmlfcdnpepaaDoor.framen Go.Proofs.YtjebmlfcdnpepaaDoor.framel3 Go.Proofs.YtjebmlfcdnpepaaDoor.framel4

set_option maxHeartbeats 4000000 in
/-- no byte is turned -/
theorem tells_off (A : Option Addr) (n c : Nat) (xss : List (List Int)) (wh at_ : Int) (w : World) (hr : RdBB w A n xss) (hc : n ≤ c) (hn : xss.flatten.length + n + 1 ≤ 1048576) (hw : -9223372036854775808 ≤ wh ∧ wh ≤ 9223372036854775807) (ha : -9223372036854775808 ≤ at_ ∧ at_ ≤ 9223372036854775807) (ht : Table w)
    (hoff : ∀ k : Nat, k < n → (k : Int) = wh → 0 ≤ at_ → 4 + ((xss.getD k []).length : Int) ≤ at_) :
    Calls Tryd.prog 8 #[.slice A n c, .int .i64 wh, .int .i64 at_] w fun e w' => e = .returned (.bool true) ∧ Below w.heap.size w w' := by
  have HR := Lib.hid hr
  have HT := Lib.hid ht
  have HOFF := Lib.hid hoff
  have hnn : n ≤ 1048576 := by omega
  have hfl : xss.flatten.length ≤ 1048576 := by omega
  have HL := Lib.hid hr.1
  have HF := Lib.hid (fencs_len xss)
  obtain ⟨ha1, ha2⟩ := ha
  obtain ⟨hw1, hw2⟩ := hw
  clear hr ht hn hoff
  go_enter Tryd.func8, Tryd.ntmps8
  go_wp2_with fail
  refine (wakes_any _ HT.out).mono ?_
  rintro e w2 ⟨rfl, hb2⟩
  have B2 := Lib.hid hb2
  have hs2 := hb2.size
  clear hb2
  go_wp2
  go_loopw [7, 8, 17] (fun r f i wr => ∃ (k : Nat) (A1 : Option Addr) (n1 c1 : Nat), k ≤ n ∧ i = .int .i64 k ∧ r = .slice A1 n1 c1 ∧ f = .int .i64 (-1) ∧ Aside0 (OwB wr w.heap.size A1 n1 c1 (fencs (xss.take k))) ∧ Aside0 (Below w.heap.size w wr)) (fun _ _ i _ => n - (intOf i).toNat)
  case atStart => exact ⟨0, none, 0, 0, by omega, rfl, rfl, rfl, ⟨OwB.nil _ _⟩, ⟨B2.out⟩⟩
  case round =>
    obtain ⟨k, A1, n1, c1, hk, rfl, rfl, rfl, HO, HB⟩ := hrel
    have hs := HB.out.size
    have hn1 := HO.out.len
    rw [fencs_len] at hn1
    have htf := take_flat xss k
    rw [List.length_take, HL.out] at hn1
    have hn1' : n1 ≤ 9437184 := by omega
    clear hn1 htf
    by_cases hlt : k < n
    · obtain ⟨ad, rfl, a2, m2, c2, hcell, hc2, hrow⟩ := (HR.out.below HB.out).at_ k hlt
      have hpl := flat_le (xss := xss) (k := k) (by rw [HL.out]; exact hlt)
      have hok := HOFF.out k hlt
      rw [hrow.len] at hpl hok
      have HE := Lib.hid (encodeO a2 m2 c2 _ wr hrow hc2 (by omega) (HT.out.below HB.out))
      have HS := Lib.hid (take_snoc2 xss k (by rw [HL.out]; exact hlt))
      have HFl := Lib.hid (fenc_len (xss.getD k []))
      rw [hrow.len] at HFl
      generalize xss.getD k [] = p at HE HS HFl
      clear hrow
      unfold RetO at HE
      by_cases hkw : (k : Int) = wh
      · have hok2 := hok hkw
        clear hok
        subst hkw
        by_cases ha0 : 0 ≤ at_
        · have ha4 := hok2 ha0
          clear hok2
          go_wp2_with (first | (go_at_call 10; refine HE.out.mono ?_; rintro e w4 ⟨A4, n4, c4, rfl, ho4, hb4⟩; have hl4 := ho4.len; rw [HFl.out] at hl4; subst hl4; have HO4 := Lib.hid ho4.rd; have HB4 := Lib.hid (HB.out.trans (hb4.mono hs)); have hs4 := HB4.out.size; have HOb := Lib.hid (HO.out.below hb4); clear ho4 hb4) | (at_builtin; refine app (w0 := w) (base := w.heap.size) rfl (.tmp 55) (.tmp 56) rfl rfl rfl (HOb.out) (HO4.out) (HB4.out) ?s5 ?l5 ?_; (case s5 => exact hs4); (case l5 => omega); intro A5 n5 c5 w5 ho hb; have HO5 := Lib.hid ho; have B5 := Lib.hid hb; clear ho hb))
          go_roundw
          case rel => exact ⟨k + 1, A5, n5, c5, by omega, by go_num, rfl, rfl, ⟨by rw [HS.out, fencs_snoc]; exact HO5.out⟩, ⟨B5.out⟩⟩
          case measure => simp [intOf]; omega
        · clear hok2
          go_wp2_with (first | (go_at_call 10; refine HE.out.mono ?_; rintro e w4 ⟨A4, n4, c4, rfl, ho4, hb4⟩; have hl4 := ho4.len; rw [HFl.out] at hl4; subst hl4; have HO4 := Lib.hid ho4.rd; have HB4 := Lib.hid (HB.out.trans (hb4.mono hs)); have hs4 := HB4.out.size; have HOb := Lib.hid (HO.out.below hb4); clear ho4 hb4) | (at_builtin; refine app (w0 := w) (base := w.heap.size) rfl (.tmp 55) (.tmp 56) rfl rfl rfl (HOb.out) (HO4.out) (HB4.out) ?s5 ?l5 ?_; (case s5 => exact hs4); (case l5 => omega); intro A5 n5 c5 w5 ho hb; have HO5 := Lib.hid ho; have B5 := Lib.hid hb; clear ho hb))
          go_roundw
          case rel => exact ⟨k + 1, A5, n5, c5, by omega, by go_num, rfl, rfl, ⟨by rw [HS.out, fencs_snoc]; exact HO5.out⟩, ⟨B5.out⟩⟩
          case measure => simp [intOf]; omega
      · have hkb : ((k : Int) == wh) = false := beq_eq_false_iff_ne.2 hkw
        clear hok
        go_wp2_with (first | (go_at_call 10; refine HE.out.mono ?_; rintro e w4 ⟨A4, n4, c4, rfl, ho4, hb4⟩; have hl4 := ho4.len; rw [HFl.out] at hl4; subst hl4; have HO4 := Lib.hid ho4.rd; have HB4 := Lib.hid (HB.out.trans (hb4.mono hs)); have hs4 := HB4.out.size; have HOb := Lib.hid (HO.out.below hb4); clear ho4 hb4) | (at_builtin; refine app (w0 := w) (base := w.heap.size) rfl (.tmp 55) (.tmp 56) rfl rfl rfl (HOb.out) (HO4.out) (HB4.out) ?s5 ?l5 ?_; (case s5 => exact hs4); (case l5 => omega); intro A5 n5 c5 w5 ho hb; have HO5 := Lib.hid ho; have B5 := Lib.hid hb; clear ho hb))
        go_roundw
        case rel => exact ⟨k + 1, A5, n5, c5, by omega, by go_num, rfl, rfl, ⟨by rw [HS.out, fencs_snoc]; exact HO5.out⟩, ⟨B5.out⟩⟩
        case measure => simp [intOf]; omega
    · obtain rfl : k = n := by omega
      have HO1 : Hid (OwB wr w.heap.size A1 n1 c1 (fencs xss)) := Lib.hid (by have := HO.out; rwa [List.take_of_length_le (by rw [HL.out]; omega)] at this)
      have BW := Lib.hid HB.out
      obtain ⟨hP1, hE1⟩ := P_fencs xss [] (fun p hp => Nat.le_trans (flat_mem hp) hfl)
      rw [List.append_nil, show P [] = [] from rfl, List.append_nil] at hP1
      rw [List.append_nil, show E [] = 0 from rfl, Nat.add_zero, HO1.out.len] at hE1
      have HAll := Lib.hid (allP A1 n1 c1 _ wr HO1.out.rd (by omega) (HT.out.below BW.out))
      have HEd := Lib.hid (fun W (h : Below wr.heap.size wr W) => endE A1 n1 c1 _ W (HO1.out.rd.below h) (by omega) (HT.out.below (BW.out.trans (h.mono hs))))
      rw [hP1] at HAll
      rw [hE1] at HEd
      unfold RetP at HAll
      clear HO hP1 hE1
      go_wp2_with (first | (go_at_call 16; refine HAll.out.mono ?_; rintro e wd ⟨Ad, nd, cd, rfl, hcd, hmd, hrd, hbd⟩; have HXd := Lib.hid hrd; have Bd := Lib.hid hbd; have HYd := Lib.hid (HR.out.below (BW.out.trans (hbd.mono hs))); clear hrd hbd) | (go_at_call 15; refine (alike_any _ _ _ _ _ _ _ _ _ HXd.out HYd.out).mono ?_; rintro e we ⟨rfl, ⟨qe, rfl⟩⟩; rw [eqLL_self]; have Be := Lib.hid (pw_below_drewN Bd.out qe); have hse := Be.out.size) | (go_at_call 17; refine (HEd.out _ Be.out).mono ?_; rintro e wf ⟨rfl, hbf⟩; have Bf := Lib.hid (Be.out.trans (hbf.mono hse)); clear hbf))
      go_ret
      exact ⟨rfl, BW.out.trans (Bf.out.mono hs)⟩
set_option maxHeartbeats 4000000 in
/-- a byte is turned -/
theorem tells_on (A : Option Addr) (n c : Nat) (xss : List (List Int)) (q : Nat) (at_ : Int) (w : World) (hr : RdBB w A n xss) (hc : n ≤ c) (hn : xss.flatten.length + n + 1 ≤ 1048576) (ht : Table w)
    (hq : q < n) (ha0 : 0 ≤ at_) (ha4 : at_ < 4 + ((xss.getD q []).length : Int)) :
    Calls Tryd.prog 8 #[.slice A n c, .int .i64 (q : Int), .int .i64 at_] w fun e w' => e = .returned (.bool true) ∧ Below w.heap.size w w' := by
  have HR := Lib.hid hr
  have HT := Lib.hid ht
  have hnn : n ≤ 1048576 := by omega
  have hfl : xss.flatten.length ≤ 1048576 := by omega
  have HL := Lib.hid hr.1
  have hLq := fencs_len (xss.take q)
  rw [List.length_take, HL.out] at hLq
  have hLf := take_flat xss q
  obtain ⟨L, hL⟩ : ∃ L, (fencs (xss.take q)).length = L := ⟨_, rfl⟩
  rw [hL] at hLq
  have hLm : L ≤ 9437184 := by omega
  have HLq := Lib.hid hL
  have hrq : By (xss.getD q []) := by
    obtain ⟨_, _, _, _, _, _, _, h⟩ := hr.at_ q hq
    exact h.2
  have HEND := Lib.hid (tellB_end (xss := xss) (q := q) (i := at_.toNat) (by rw [HL.out]; exact hq) (by omega) (fun p hp => Nat.le_trans (flat_mem hp) hfl) hrq)
  have hpq := flat_le (xss := xss) (k := q) (by rw [HL.out]; exact hq)
  obtain ⟨mp, hmp⟩ : ∃ mp, (xss.getD q []).length = mp := ⟨_, rfl⟩
  rw [hmp] at ha4 hpq
  have HMP := Lib.hid hmp
  have hA4 : (4 + at_).toNat = 4 + at_.toNat := by omega
  have HA4 := Lib.hid hA4
  clear hr ht hn hLq hLf hL hrq hmp hA4
  go_enter Tryd.func8, Tryd.ntmps8
  go_wp2_with fail
  refine (wakes_any _ HT.out).mono ?_
  rintro e w2 ⟨rfl, hb2⟩
  have B2 := Lib.hid hb2
  have hs2 := hb2.size
  clear hb2
  go_wp2
  go_loopw [7, 8, 17] (fun r f i wr => ∃ (k : Nat) (A1 : Option Addr) (n1 c1 : Nat), k ≤ n ∧ i = .int .i64 k ∧ r = .slice A1 n1 c1 ∧ f = .int .i64 (frm q L k) ∧ Aside0 (OwB wr w.heap.size A1 n1 c1 (tellB xss q at_.toNat k)) ∧ Aside0 (Below w.heap.size w wr)) (fun _ _ i _ => n - (intOf i).toNat)
  case atStart => exact ⟨0, none, 0, 0, by omega, rfl, rfl, by rw [frm_low (Nat.zero_le _)], ⟨OwB.nil _ _⟩, ⟨B2.out⟩⟩
  case round =>
    obtain ⟨k, A1, n1, c1, hk, rfl, rfl, rfl, HO, HB⟩ := hrel
    have hs := HB.out.size
    have hn1 := HO.out.len
    rw [tellB_len k (by rw [HL.out]; exact hk), fencs_len] at hn1
    have htf := take_flat xss k
    rw [List.length_take, HL.out] at hn1
    have hn1' : n1 ≤ 9437184 := by omega
    clear hn1 htf
    by_cases hlt : k < n
    · obtain ⟨ad, rfl, a2, m2, c2, hcell, hc2, hrow⟩ := (HR.out.below HB.out).at_ k hlt
      have hpl := flat_le (xss := xss) (k := k) (by rw [HL.out]; exact hlt)
      rw [hrow.len] at hpl
      have HE := Lib.hid (encodeO a2 m2 c2 _ wr hrow hc2 (by omega) (HT.out.below HB.out))
      have HFl := Lib.hid (fenc_len (xss.getD k []))
      rw [hrow.len] at HFl
      have HM2 := Lib.hid hrow.len
      clear hrow
      unfold RetO at HE
      by_cases hkq : k = q
      · subst hkq
        have HT5 := Lib.hid (tellB_at (xss := xss) (q := k) (i := at_.toNat))
        have HTL := Lib.hid (tf_len (xss.getD k []) at_.toNat)
        have hm2 : m2 = mp := HM2.out.symm.trans HMP.out
        subst hm2
        have HFR := Lib.hid (frm_high (q := k) (k := k + 1) (L := L) (by omega))
        have hn1L : (n1 : Int) = L := by
          have h1 := HO.out.len
          rw [tellB_len k (by rw [HL.out]; exact hk), HLq.out] at h1
          omega
        have HNL := Lib.hid hn1L
        have hkk : ((k : Int) == (k : Int)) = true := beq_self_eq_true _
        clear hn1L
        go_wp2_with (first | (go_at_call 10; refine HE.out.mono ?_; rintro e w4 ⟨A4, n4, c4, rfl, ho4, hb4⟩; have hl4 := ho4.len; rw [HFl.out] at hl4; subst hl4; obtain ⟨g4, rfl, hg4, hgl4⟩ := ho4.form (by omega); have hat := own_at ho4.1 (4 + at_) (by omega) (by omega); obtain ⟨hcl, hfr⟩ := hat; have HB4 := Lib.hid (hb4.setCell (p := ⟨g4, (4 + at_).toNat, none⟩) hg4 (.int .u8 (Go.bits .xor .u8 (rd (fenc (xss.getD k [])) (4 + at_)) 85))); have HO4 := Lib.hid (ho4.store (4 + at_).toNat (Go.bits .xor .u8 (rd (fenc (xss.getD k [])) (4 + at_)) 85) (xr8_r _ _)); clear ho4 hb4) | (at_builtin; refine app (w0 := w) (base := w.heap.size) rfl (.tmp 55) (.tmp 56) rfl rfl rfl (HO.out.below HB4.out) (HO4.out.rd) (HB.out.trans (HB4.out.mono hs)) ?s5 ?l5 ?_; (case s5 => exact Nat.le_trans hs HB4.out.size); (case l5 => omega); intro A5 n5 c5 w5 ho hb; have HO5 := Lib.hid ho; have B5 := Lib.hid hb; clear ho hb))
        go_roundw
        case rel => exact ⟨k + 1, A5, n5, c5, by omega, by go_num, rfl, by rw [HFR.out, HNL.out], ⟨by rw [HT5.out]; have := HO5.out; unfold rd at this; rw [HA4.out] at this; exact this⟩, ⟨B5.out⟩⟩
        case measure => simp [intOf]; omega
      · have HT5 : Hid (tellB xss q at_.toNat (k + 1) = tellB xss q at_.toNat k ++ fenc (xss.getD k [])) := Lib.hid (by
          rcases Nat.lt_or_gt_of_ne hkq with h | h
          · exact tellB_low h (by rw [HL.out]; exact hlt)
          · exact tellB_high h (by rw [HL.out]; exact hlt))
        have HFR : Hid (frm q L (k + 1) = frm q L k) := Lib.hid (by
          rcases Nat.lt_or_gt_of_ne hkq with h | h
          · rw [frm_low (by omega), frm_low (by omega)]
          · rw [frm_high (by omega), frm_high h])
        generalize frm q L k = fr at HFR
        have hkb : ((k : Int) == (q : Int)) = false := beq_eq_false_iff_ne.2 (by omega)
        have hkn : (k == q) = false := beq_eq_false_iff_ne.2 hkq
        go_wp2_with (first | (go_at_call 10; refine HE.out.mono ?_; rintro e w4 ⟨A4, n4, c4, rfl, ho4, hb4⟩; have hl4 := ho4.len; rw [HFl.out] at hl4; subst hl4; have HO4 := Lib.hid ho4.rd; have HB4 := Lib.hid (HB.out.trans (hb4.mono hs)); have hs4 := HB4.out.size; have HOb := Lib.hid (HO.out.below hb4); clear ho4 hb4) | (at_builtin; refine app (w0 := w) (base := w.heap.size) rfl (.tmp 55) (.tmp 56) rfl rfl rfl (HOb.out) (HO4.out) (HB4.out) ?s5 ?l5 ?_; (case s5 => exact hs4); (case l5 => omega); intro A5 n5 c5 w5 ho hb; have HO5 := Lib.hid ho; have B5 := Lib.hid hb; clear ho hb))
        go_roundw
        case rel => exact ⟨k + 1, A5, n5, c5, by omega, by go_num, rfl, by rw [HFR.out], ⟨by rw [HT5.out]; exact HO5.out⟩, ⟨B5.out⟩⟩
        case measure => simp [intOf]; omega
    · obtain rfl : k = n := by omega
      have BW := Lib.hid HB.out
      obtain ⟨hP1, hE1⟩ := HEND.out
      rw [HL.out] at hP1 hE1
      rw [HLq.out] at hE1
      have HO1 := Lib.hid HO.out
      have B3 := Lib.hid BW.out.drew
      have hs3 := B3.out.size
      have D3 := Lib.hid (Below.refl wr.heap.size wr).drew
      have HAll := Lib.hid (allP A1 n1 c1 _ wr.drew (HO1.out.rd.below D3.out) (by omega) (HT.out.below B3.out))
      have HEd := Lib.hid (fun W (h : Below wr.drew.heap.size wr.drew W) => endE A1 n1 c1 _ W ((HO1.out.rd.below D3.out).below h) (by omega) (HT.out.below (B3.out.trans (h.mono hs3))))
      rw [hP1] at HAll
      rw [hE1] at HEd
      unfold RetP at HAll
      have hqc : q ≤ c := by omega
      have hqi : (q : Int) ≤ (c : Int) := by omega
      have hqi0 : (0 : Int) ≤ (q : Int) := by omega
      have HFR := Lib.hid (frm_high (q := q) (k := k) (L := L) hq)
      rw [HFR.out]
      have hL0 : ¬ ((L : Int) < 0) := by omega
      have HRq := Lib.hid (RdBB.take HR.out q (by omega))
      clear HO hP1 hE1 HFR
      go_wp2_with fail
      generalize hgw : wr.drew = w9 at *
      go_region_held3 (fun _ => True) (trivial) (first | (go_at_call 16; refine HAll.out.mono ?_; rintro e wd ⟨Ad, nd, cd, rfl, hcd, hmd, hrd, hbd⟩; have HXd := Lib.hid hrd; have Bd := Lib.hid hbd; have HYd := Lib.hid (HRq.out.below (B3.out.trans (hbd.mono hs3))); clear hrd hbd) | (go_at_call 15; refine (alike_any _ _ _ _ _ _ _ _ _ HXd.out HYd.out).mono ?_; rintro e we ⟨rfl, ⟨qe, rfl⟩⟩; rw [eqLL_self]; have Be := Lib.hid (pw_below_drewN Bd.out qe); have hse := Be.out.size) | (go_at_call 17; refine (HEd.out _ Be.out).mono ?_; rintro e wf ⟨rfl, hbf⟩; have Bf := Lib.hid (Be.out.trans (hbf.mono hse)); clear hbf))
      go_wp2
      go_ret
      exact ⟨rfl, B3.out.trans (Bf.out.mono hs3)⟩
theorem tellsLaw (A : Option Addr) (n c : Nat) (xss : List (List Int)) (wh at_ : Int) (w : World) (hr : RdBB w A n xss) (hc : n ≤ c) (hn : xss.flatten.length + n + 1 ≤ 1048576) (hw : -9223372036854775808 ≤ wh ∧ wh ≤ 9223372036854775807) (ha : -9223372036854775808 ≤ at_ ∧ at_ ≤ 9223372036854775807) (ht : Table w) :
    Calls Tryd.prog 8 #[.slice A n c, .int .i64 wh, .int .i64 at_] w fun e w' => e = .returned (.bool true) ∧ Below w.heap.size w w' := by
  by_cases h : ∃ q : Nat, q < n ∧ (q : Int) = wh ∧ 0 ≤ at_ ∧ at_ < 4 + ((xss.getD q []).length : Int)
  · obtain ⟨q, h1, rfl, h2, h3⟩ := h
    exact tells_on A n c xss q at_ w hr hc hn ht h1 h2 h3
  · exact tells_off A n c xss wh at_ w hr hc hn hw ha ht fun k h1 h2 h3 => by
      rcases Int.lt_or_le at_ (4 + ((xss.getD k []).length : Int)) with h4 | h4
      · exact absurd ⟨k, h1, h2, h3, h4⟩ h
      · exact h4
end Go.Proofs.YtjebmlfcdnpepaaDoor.framel5
