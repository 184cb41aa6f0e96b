/- The walk of the law FrameChain. -/
import Derived.Test.YtjebmlfcdnpepaaDoorFrameLaws3
import Derived.Test.YtjebmlfcdnpepaaDoorStepApp
set_option linter.unusedVariables false
set_option linter.unusedSimpArgs false
namespace Go.Proofs.YtjebmlfcdnpepaaDoor.framel4
open Go.RowKit Go.Shelf Go.Proofs.YtjebmlfcdnpepaaDoorW.PrintWords Go.Proofs.YtjebmlfcdnpepaaDoor.base Go.Proofs.YtjebmlfcdnpepaaDoor.mem Go.Proofs.YtjebmlfcdnpepaaDoor.crcp Go.Proofs.YtjebmlfcdnpepaaDoor.crcw Go.Proofs.YtjebmlfcdnpepaaDoor.samew Go.Proofs.YtjebmlfcdnpepaaDoor.keep Go.Proofs.YtjebmlfcdnpepaaDoor.framep Go.Proofs.YtjebmlfcdnpepaaDoor.framew Go.Proofs.YtjebmlfcdnpepaaDoor.frameit Go.Proofs.YtjebmlfcdnpepaaDoor.framem Go.Proofs.YtjebmlfcdnpepaaDoor.framel Go.Proofs.YtjebmlfcdnpepaaDoor.framea Go.Proofs.YtjebmlfcdnpepaaDoor.framer Go.Proofs.YtjebmlfcdnpepaaDoor.framen Go.Proofs.YtjebmlfcdnpepaaDoor.framel3

/-- Encode of a payload that is not too long -/
def RetO (w : World) (F : List Int) (e : Ending) (w' : World) : Prop := ∃ A n c, e = .returned (.tuple #[.slice A n c, .int .i64 0]) ∧ OwB w' w.heap.size A n c F ∧ Below w.heap.size w w'
theorem encodeO (A : Option Addr) (n c : Nat) (xs : List Int) (w : World) (hr : RdB w A n xs) (hc : n ≤ c) (hn : n ≤ 1048576) (ht : Table w) :
    Calls Tryd.prog 10 #[.slice A n c] w (RetO w (fenc xs)) := by
  have := encode_any A n c xs w hr hc ht
  rw [decide_eq_true hn] at this
  exact this
theorem flat_mem {xss : List (List Int)} {p : List Int} (h : p ∈ xss) : p.length ≤ xss.flatten.length := by
  obtain ⟨s, t, e⟩ := List.append_of_mem h
  rw [e, List.flatten_append, List.flatten_cons, List.length_append, List.length_append]
  omega
theorem flat_le {xss : List (List Int)} {k : Nat} (h : k < xss.length) : (xss.getD k []).length ≤ xss.flatten.length := flat_mem (by
  rw [List.getD_eq_getElem?_getD, List.getElem?_eq_getElem h]
  exact List.getElem_mem h)
theorem take_flat (xss : List (List Int)) (k : Nat) : (xss.take k).flatten.length ≤ xss.flatten.length := by
  have h : (xss.take k ++ xss.drop k).flatten.length = xss.flatten.length := by rw [List.take_append_drop]
  rw [List.flatten_append, List.length_append] at h
  omega
set_option maxHeartbeats 4000000 in
theorem chainLaw (A : Option Addr) (n c : Nat) (xss : List (List Int)) (A' : Option Addr) (m c' : Nat) (ms : List Int) (cut : Int) (w : World) (hr : RdBB w A n xss) (hc : n ≤ c) (hn : xss.flatten.length + n + 1 ≤ 1048576) (hr' : RdB w A' m ms) (hc' : m ≤ c') (hm : m + 1 ≤ 1048576) (hst : -9223372036854775808 ≤ cut ∧ cut ≤ 9223372036854775807) (ht : Table w) :
    Calls Tryd.prog 5 #[.slice A n c, .slice A' m c', .int .i64 cut] w fun e w' => e = .returned (.bool true) ∧ Below w.heap.size w w' := by
  have HR := Lib.hid hr
  have HRM := Lib.hid hr'
  have HT := Lib.hid ht
  have hm' : m ≤ 1048576 := by omega
  have hnn : n ≤ 1048576 := by omega
  have hfl : xss.flatten.length ≤ 1048576 := by omega
  have HL := Lib.hid hr.1
  have hml := hr'.len
  have HF := Lib.hid (fencs_len xss)
  clear hr hr' ht hn hm
  go_enter Tryd.func5, Tryd.ntmps5
  go_wp2_with fail
  refine (wakes_any _ HT.out).mono ?_
  rintro e w2 ⟨rfl, hb2⟩
  have B2 := Lib.hid hb2
  have hs2 := hb2.size
  clear hb2
  go_wp2
  go_loopw [7, 20] (fun r i wr => ∃ (k : Nat) (A1 : Option Addr) (n1 c1 : Nat), k ≤ n ∧ i = .int .i64 k ∧ r = .slice A1 n1 c1 ∧ Aside0 (OwB wr w.heap.size A1 n1 c1 (fencs (xss.take k))) ∧ Aside0 (Below w.heap.size w wr)) (fun _ i _ => n - (intOf i).toNat)
  case atStart => exact ⟨0, none, 0, 0, by omega, rfl, rfl, ⟨OwB.nil _ _⟩, ⟨B2.out⟩⟩
  case round =>
    obtain ⟨k, A1, n1, c1, hk, rfl, rfl, HO, HB⟩ := hrel
    have hs := HB.out.size
    have hn1 := HO.out.len
    rw [fencs_len] at hn1
    have htf := take_flat xss k
    rw [List.length_take, HL.out] at hn1
    have hn1' : n1 ≤ 9437184 := by omega
    clear hn1 htf
    by_cases hlt : k < n
    · obtain ⟨ad, rfl, a2, m2, c2, hcell, hc2, hrow⟩ := (HR.out.below HB.out).at_ k hlt
      have hpl := flat_le (xss := xss) (k := k) (by rw [HL.out]; exact hlt)
      rw [hrow.len] at hpl
      have HE := Lib.hid (encodeO a2 m2 c2 _ wr hrow hc2 (by omega) (HT.out.below HB.out))
      have HS := Lib.hid (take_snoc2 xss k (by rw [HL.out]; exact hlt))
      have HFl := Lib.hid (fenc_len (xss.getD k []))
      rw [hrow.len] at HFl
      generalize xss.getD k [] = p at HE HS HFl
      clear hrow
      unfold RetO at HE
      go_wp2_with (first | (go_at_call 10; refine HE.out.mono ?_; rintro e w4 ⟨A4, n4, c4, rfl, ho4, hb4⟩; have hl4 := ho4.len; rw [HFl.out] at hl4; subst hl4; have HO4 := Lib.hid ho4.rd; have HB4 := Lib.hid (HB.out.trans (hb4.mono hs)); have hs4 := HB4.out.size; have HOb := Lib.hid (HO.out.below hb4); clear ho4 hb4) | (at_builtin; refine app (w0 := w) (base := w.heap.size) rfl (.tmp 43) (.tmp 44) rfl rfl rfl (HOb.out) (HO4.out) (HB4.out) ?s5 ?l5 ?_; (case s5 => exact hs4); (case l5 => omega); intro A5 n5 c5 w5 ho hb; have HO5 := Lib.hid ho; have B5 := Lib.hid hb; clear ho hb))
      go_roundw
      case rel => exact ⟨k + 1, A5, n5, c5, by omega, by go_num, rfl, ⟨by rw [HS.out, fencs_snoc]; exact HO5.out⟩, ⟨B5.out⟩⟩
      case measure => simp [intOf]; omega
    · obtain rfl : k = n := by omega
      have HO1 : Hid (OwB wr w.heap.size A1 n1 c1 (fencs xss)) := Lib.hid (by have := HO.out; rwa [List.take_of_length_le (by rw [HL.out]; omega)] at this)
      have hn1 := HO1.out.len
      rw [fencs_len, HL.out] at hn1
      have hB1 := HB.out.size
      have B3 := Lib.hid (Below.refl wr.heap.size wr)
      have BW := Lib.hid (fun W (h : Below wr.heap.size wr W) => HB.out.trans (h.mono hs))
      obtain ⟨hP1, hE1⟩ := P_fencs xss ms (fun p hp => Nat.le_trans (flat_mem hp) hfl)
      have hpm := P_len ms.length ms (Nat.le_refl _)
      clear HO
      have HO1 := HO1
      go_wp2_with (first | (at_builtin; refine app (w0 := wr) (base := wr.heap.size) rfl (.tmp 47) (.tmp 48) rfl rfl rfl (OwB.lit0 _ _ (Nat.le_refl _)) (HO1.out.rd.below (below_alloc (Below.refl _ _) _)) (B3.out.alloc (Nat.le_refl _) _) ?sb ?lb ?_; (case sb => simp); (case lb => omega); intro Ab nb cb wb ho hb; have HOb := Lib.hid ho; have Bb := Lib.hid hb; have hsb := hb.size; have hlb := ho.len; rw [List.nil_append, HO1.out.len] at hlb; subst hlb; clear ho hb) | (at_builtin; refine app (w0 := wr) (base := wr.heap.size) rfl (.tmp 49) (.tmp 50) rfl rfl rfl (HOb.out) (HRM.out.below (BW.out _ Bb.out)) (Bb.out) ?sc ?lc ?_; (case sc => exact hsb); (case lc => omega); intro Ac nc cc wc ho hb; have HOc := Lib.hid ho; have Bc := Lib.hid hb; have hlc := ho.len; rw [List.length_append, List.nil_append, HO1.out.len, hml] at hlc; clear ho hb) | fail "A")
      have HAll := Lib.hid (allP Ac nc cc _ wc HOc.out.rd (by omega) (HT.out.below (BW.out _ Bc.out)))
      rw [List.nil_append, hP1] at HAll
      have Bwc := Lib.hid (BW.out _ Bc.out)
      have hsc := Bwc.out.size
      have HO2 := Lib.hid (HO1.out.below Bc.out)
      unfold RetP at HAll
      clear HOc HOb Bb Bc hP1 hE1 B3
      have hst2 := hst
      clear hst
      go_wp2_with fail
      refine HAll.out.mono ?_
      rintro e w6 ⟨A6, n6, c6, rfl, hc6, hm6, hr6, hb6⟩
      have B6 := Lib.hid (Bwc.out.trans (hb6.mono hsc))
      have hs6 := B6.out.size
      have HO6 := Lib.hid (HO2.out.below hb6)
      have hl6 := hr6.1
      rw [List.length_append, HL.out] at hl6
      have HX6 := Lib.hid (RdBB.take hr6 k (by omega))
      rw [show (xss ++ P ms).take k = xss from List.take_left' HL.out] at HX6
      have HY6 := Lib.hid (HR.out.below B6.out)
      have q0 : decide ((n6 : Int) < (k : Int)) = false := decide_eq_false (by omega)
      have q0n : decide (n6 < k) = false := decide_eq_false (by omega)
      have hk6 : k ≤ c6 := by omega
      have hk6i : (k : Int) ≤ (c6 : Int) := by omega
      clear hr6 hb6 hl6 hpm
      go_wp2_with (go_at_call 15; refine (alike_any _ _ _ _ _ _ _ _ _ HX6.out HY6.out).mono ?_; rintro e w7 ⟨rfl, ⟨q7, rfl⟩⟩; rw [eqLL_self])
      have B7 := Lib.hid (pw_below_drewN B6.out q7)
      have hs7 := B7.out.size
      have HO7 := Lib.hid (HO6.out.drawn q7)
      have HEm := Lib.hid (encodeO A' m c' ms _ (HRM.out.below B7.out) hc' hm' (HT.out.below B7.out))
      have HLm := Lib.hid (fenc_len ms)
      rw [hml] at HLm
      unfold RetO at HEm
      generalize w6.drewN q7 = w7 at B7 hs7 HO7 HEm ⊢
      refine HEm.out.mono ?_
      rintro e w8 ⟨A8, n8, c8, rfl, ho8, hb8⟩
      have hl8 := ho8.len
      rw [HLm.out] at hl8
      subst hl8
      have hc8 := ho8.cap
      have HR8 := Lib.hid ho8.rd
      have B8 := Lib.hid (B7.out.trans (hb8.mono hs7))
      have hs8 := B8.out.size
      have HO8 := Lib.hid (HO7.out.below hb8)
      clear ho8 hb8
      by_cases hcut : cut < 0
      · go_wp2
        go_ret
        exact ⟨rfl, B8.out⟩
      by_cases hcut2 : (8 : Int) + (m : Int) ≤ cut
      · go_wp2
        go_ret
        exact ⟨rfl, B8.out⟩
      obtain ⟨q, rfl⟩ := Int.eq_ofNat_of_zero_le (show 0 ≤ cut by omega)
      have hqm : q < 8 + m := by omega
      have hq8 : q ≤ c8 := by omega
      have hqi : (q : Int) ≤ (c8 : Int) := by omega
      obtain ⟨hP2, hE2⟩ := P_fencs xss ((fenc ms).take q) (fun p hp => Nat.le_trans (flat_mem hp) hfl)
      obtain ⟨hP3, hE3⟩ := torn ms q (by omega) (by rw [HLm.out]; exact hqm)
      rw [hP3, List.append_nil] at hP2
      rw [hE3, Nat.add_zero, HO1.out.len] at hE2
      have B9 := Lib.hid B8.out.drew
      have hs9 := B9.out.size
      have D9 := Lib.hid (Below.refl w8.heap.size w8).drew
      have HO9 := Lib.hid (HO8.out.below D9.out)
      have HR9 := Lib.hid ((HR8.out.take q (by omega)).below D9.out)
      have HZ9 := Lib.hid (Below.refl w8.drew.heap.size w8.drew)
      clear hP3 hE3 hst2
      go_wp2_with fail
      generalize hgw : w8.drew = w9 at *
      go_region_held3 (fun _ => True) (trivial) (first | ((refine stepApp (w0 := w9) (base := w9.heap.size) (by rfl) (.tmp 91) (.tmp 92) (by rfl) (by rfl) (by rfl) (OwB.lit0 _ _ (Nat.le_refl _)) (HO9.out.rd.below (below_alloc (Below.refl _ _) _)) (HZ9.out.alloc (Nat.le_refl _) _) (by simp) (by omega) ?_; intro Aa na ca wa hoa hba; have hla := hoa.len; rw [List.nil_append, HO1.out.len] at hla; subst hla; have HOa := Lib.hid hoa; have Ba := Lib.hid hba; have hsa := hba.size; clear hoa hba)) | ((refine stepApp (w0 := w9) (base := w9.heap.size) (by rfl) (.tmp 93) (.tmp 96) (by rfl) (by rfl) (by rfl) HOa.out (HR9.out.below Ba.out) Ba.out hsa (by omega) ?_; intro Ab nb cb wb hob hbb; have HOb := Lib.hid hob; have Bb := Lib.hid hbb; clear hob hbb)))
      have hlb := HOb.out.len
      rw [List.length_append, List.nil_append, HO1.out.len, List.length_take, HLm.out] at hlb
      have Bwb := Lib.hid (B9.out.trans (Bb.out.mono hs9))
      have hsb9 := Bwb.out.size
      have hnb : nb ≤ 1099511627776 := by omega
      have HAl := Lib.hid (fun W (h : Below wb.heap.size wb W) => allP Ab nb cb _ W (HOb.out.rd.below h) hnb (HT.out.below (Bwb.out.trans (h.mono hsb9))))
      have HEd := Lib.hid (fun W (h : Below wb.heap.size wb W) => endE Ab nb cb _ W (HOb.out.rd.below h) hnb (HT.out.below (Bwb.out.trans (h.mono hsb9))))
      rw [List.nil_append, hP2] at HAl
      rw [List.nil_append, hE2] at HEd
      unfold RetP at HAl
      clear hP2 hE2 hlb HOa Ba hgw
      go_wp2_with (first | (go_at_call 16; refine (HAl.out _ (Below.refl _ _)).mono ?_; rintro e wd ⟨Ad, nd, cd, rfl, hcd, hmd, hrd, hbd⟩; have HXd := Lib.hid hrd; have Bd := Lib.hid hbd; have HYd := Lib.hid (HR.out.below (Bwb.out.trans (hbd.mono hsb9))); clear hrd hbd) | (go_at_call 15; refine (alike_any _ _ _ _ _ _ _ _ _ HXd.out HYd.out).mono ?_; rintro e we ⟨rfl, ⟨qe, rfl⟩⟩; rw [eqLL_self]; have Be := Lib.hid (pw_below_drewN Bd.out qe); have hse := Be.out.size) | (go_at_call 17; refine (HEd.out _ Be.out).mono ?_; rintro e wf ⟨rfl, hbf⟩; have Bf := Lib.hid (Be.out.trans (hbf.mono hse)); clear hbf))
      go_ret
      exact ⟨rfl, Bwb.out.trans (Bf.out.mono hsb9)⟩
end Go.Proofs.YtjebmlfcdnpepaaDoor.framel4
