/- The walk of the law PackReads. -/
import Derived.Test.YtlbhmbbmpmhcjaaReader
import Derived.Deep.RegionHeld3
set_option linter.unusedVariables false
set_option linter.unusedSimpArgs false
namespace Go.Proofs.Ytlbhmbbmpmhcjaa.packl
open Go.RowKit Go.Proofs.YtlbhmbbmpmhcjaaW.PrintWords Go.Proofs.Ytlbhmbbmpmhcjaa.base Go.Proofs.Ytlbhmbbmpmhcjaa.mem Go.Proofs.Ytlbhmbbmpmhcjaa.packp Go.Proofs.Ytlbhmbbmpmhcjaa.packw Go.Proofs.Ytlbhmbbmpmhcjaa.samew Go.Proofs.Ytlbhmbbmpmhcjaa.rdr

/-- a script of asks that is read -/
def RdA (w : World) (A : Option Addr) (n : Nat) (ks ns : List Int) : Prop :=
  n ≤ 9223372036854775807 ∧ (0 < n → ∃ b off, A = some ⟨b, off, none⟩ ∧ ∀ j, j < n → w.cell? ⟨b, off + j * 2, none⟩ = some (.int .i64 (ks.getD j 0)) ∧ w.cell? ⟨b, off + j * 2 + 1, none⟩ = some (.int .i64 (ns.getD j 0)))
theorem RdA.below {w w1 : World} {A : Option Addr} {n : Nat} {ks ns : List Int} (h : RdA w A n ks ns) (hb : Below w.heap.size w w1) : RdA w1 A n ks ns :=
  ⟨h.1, fun hn => by
    obtain ⟨b, off, e, hc⟩ := h.2 hn
    exact ⟨b, off, e, fun j hj => ⟨pw_cell_below hb (hc j hj).1, pw_cell_below hb (hc j hj).2⟩⟩⟩
theorem nilNumber (w : World) : Calls Try.prog 22 #[.pointer none] w fun e w' => e = .returned (.int .i64 0) ∧ w = w' := by
  go_enter Try.func22, Try.ntmps22
  go_wp2
  go_ret
  exact ⟨rfl, rfl⟩
theorem nilBytes (n : Int) (w : World) : Calls Try.prog 20 #[.pointer none, .int .i64 n] w fun e w' => e = .returned (.slice none 0 0) ∧ w = w' := by
  go_enter Try.func20, Try.ntmps20
  go_wp2
  go_ret
  exact ⟨rfl, rfl⟩
theorem nilByte (w : World) : Calls Try.prog 25 #[.pointer none] w fun e w' => e = .returned (.int .u8 0) ∧ w = w' := by
  go_enter Try.func25, Try.ntmps25
  go_wp2_with fail
  refine (nilBytes _ _).mono ?_
  rintro e w2 ⟨rfl, rfl⟩
  go_wp2
  go_ret
  exact ⟨rfl, rfl⟩
theorem nilLeft (w : World) : Calls Try.prog 26 #[.pointer none] w fun e w' => e = .returned (.int .i64 0) ∧ w = w' := by
  go_enter Try.func26, Try.ntmps26
  go_wp2
  go_ret
  exact ⟨rfl, rfl⟩
theorem nilBad (w : World) : Calls Try.prog 28 #[.pointer none] w fun e w' => e = .returned (.bool false) ∧ w = w' := by
  go_enter Try.func28, Try.ntmps28
  go_wp2
  go_ret
  exact ⟨rfl, rfl⟩
theorem nilEnd (w : World) : Calls Try.prog 21 #[.pointer none] w fun e w' => e = .returned (.bool false) ∧ w = w' := by
  go_enter Try.func21, Try.ntmps21
  go_wp2
  go_ret
  exact ⟨rfl, rfl⟩
theorem rdrDrawn {T : TypeId} {w : World} {r : Nat} {bad : Bool} {xs : List Int} (h : Rdr T w r bad xs) (q : Nat) : Rdr T (w.drewN q) r bad xs := h.below (pw_below_drewN (Below.refl _ _) q)
theorem rdtOther {w w' : World} {A : Option Addr} {n r : Nat} {xs : List Int} {T : TypeId} {bad : Bool} {ys : List Int} (h : RdT w A n xs) (h' : Rdr T w r bad ys) (hT : T ≠ 5) (hg : w.grownBy w' (some r)) : RdT w' A n xs := by
  obtain ⟨_, _, _, h1, _⟩ := h'
  exact h.turned hg h1 hT
theorem rdrAlloc {T : TypeId} {w : World} {r : Nat} {bad : Bool} {xs : List Int} (h : Rdr T w r bad xs) (o : Obj) : Rdr T (w.alloc o) r bad xs := h.below (below_alloc (Below.refl _ _) o)
set_option maxHeartbeats 1000000 in
set_option maxRecDepth 100000 in
theorem readsLaw (A : Option Addr) (n c : Nat) (xs : List Int) (A' : Option Addr) (m c' : Nat) (ks ns : List Int) (w : World) (hr : RdB w A n xs) (_ : n ≤ c) (hn : n * 1 ≤ 140737488351232) (ha : RdA w A' m ks ns) :
    Calls Try.prog 10 #[.slice A n c, .slice A' m c'] w fun e w' => e = .returned (.bool true) ∧ Below w.heap.size w w' := by
  have HR := Lib.hid hr
  have HA := Lib.hid ha
  have hm0 := ha.1
  have hn' : n ≤ 140737488351232 := by omega
  clear hr hn ha
  go_enter Try.func10, Try.ntmps10
  go_wp2_with fail
  refine (wakes_any _).mono ?_
  rintro e w1 ⟨rfl, hb⟩
  have HB1 := Lib.hid hb
  have HR1 := Lib.hid (HR.out.below hb)
  clear hb
  go_wp2_with fail
  refine (new_any _ _ _ _ _ HR1.out (by omega)).mono ?_
  rintro e w2 ⟨r, rfl, hr0, hrd, hb⟩
  have HB2 := Lib.hid (HB1.out.trans (hb.mono HB1.out.size))
  have HD2 := Lib.hid hrd
  have HR2 := Lib.hid (HR1.out.below hb)
  have hs2 := HB2.out.size
  have hrw : w.heap.size ≤ r := Nat.le_trans HB1.out.size hr0
  have hrlt := hrd.lt
  clear hb hrd
  go_wp2_with (first | (at_builtin; refine app (w0 := w2) (base := w2.heap.size) rfl (.tmp 18) (.tmp 19) rfl rfl rfl (OwB.lit0 w2 _ (Nat.le_refl _)) (HR2.out.below ((Below.refl w2.heap.size w2).alloc (Nat.le_refl _) _)) ((Below.refl w2.heap.size w2).alloc (Nat.le_refl _) _) ?s4 ?l4 ?_; (case s4 => simp); (case l4 => omega); intro A4 n4 c4 w4 ho hb; have hl := ho.len; rw [List.nil_append] at ho; rw [List.nil_append, HR2.out.len] at hl; subst hl; have HO4 := Lib.hid ho; have HB4 := Lib.hid hb; clear ho hb))
  have hrm : r ≠ w4.heap.size := by have := HB4.out.size; omega
  have HM : Hid (Rdr 46 (w4.alloc (.cells #[.slice A4 n c4, .bool false] 46)) w4.heap.size false xs) := Lib.hid ⟨A4, n, c4, by show (w4.heap.push _)[w4.heap.size]? = _; simp, HO4.out.cap, by omega, (OwB.rdT HO4.out).below (below_alloc (Below.refl _ _) _)⟩
  have HP : Hid (Rdr 54 (w4.alloc (.cells #[.slice A4 n c4, .bool false] 46)) r false xs) := Lib.hid ((HD2.out.below HB4.out).below (below_alloc (Below.refl _ _) _))
  have HBB : Hid (Below w.heap.size w (w4.alloc (.cells #[.slice A4 n c4, .bool false] 46))) := Lib.hid ((HB2.out.trans (HB4.out.mono hs2)).alloc (by have := HB4.out.size; omega) _)
  have hmw : w.heap.size ≤ w4.heap.size := by have := HB4.out.size; omega
  go_loopw [25] (fun i wr => ∃ (k : Nat) (s : St), k ≤ m ∧ i = .int .i64 k ∧ Aside0 (Rdr 54 wr r s.bad s.xs) ∧ Aside0 (Rdr 46 wr w4.heap.size s.bad s.xs) ∧ Aside0 (Below w.heap.size w wr)) (fun i _ => m - (intOf i).toNat)
  case atStart => exact ⟨0, ⟨false, xs⟩, by omega, rfl, ⟨HP.out⟩, ⟨HM.out⟩, ⟨HBB.out⟩⟩
  case round =>
    obtain ⟨k, s, hk, rfl, HSr, HSm, HBk⟩ := hrel
    by_cases hlt : k < m
    · obtain ⟨b0, off, rfl, hall⟩ := (HA.out.below HBk.out).2 (by omega)
      obtain ⟨hc0, hc1⟩ := hall k hlt
      clear hall
      generalize ks.getD k 0 = kind at hc0
      generalize ns.getD k 0 = num at hc1
      have HBX := Lib.hid (HBk.out.alloc HBk.out.size (.cells #[.int .i64 kind, .int .i64 num] 48))
      have HRX := Lib.hid (rdrAlloc HSr.out (.cells #[.int .i64 kind, .int .i64 num] 48))
      have HMX := Lib.hid (rdrAlloc HSm.out (.cells #[.int .i64 kind, .int .i64 num] 48))
      by_cases k0 : kind = 0
      · subst k0
        go_wp2_with fail
        refine (number_any _ _ _ HRX.out).mono ?_
        rintro e w5 ⟨rfl, hr5, hg5⟩
        have R5 := Lib.hid hr5
        have M5 := Lib.hid (HMX.out.other HRX.out (Ne.symm hrm) (by decide) hg5)
        have B5 := Lib.hid (HBX.out.grown hg5 HBX.out.size (fun j e => by cases e; exact hrw))
        clear hr5 hg5
        go_wp2_with fail
        refine (refnumber_any _ _ _ M5.out).mono ?_
        rintro e w6 ⟨rfl, hm6, hg6⟩
        have M6 := Lib.hid hm6
        have R6 := Lib.hid (R5.out.other M5.out hrm (by decide) hg6)
        have B6 := Lib.hid (B5.out.grown hg6 B5.out.size (fun j e => by cases e; exact hmw))
        clear hm6 hg6
        generalize (number s).2 = s6 at M6 R6
        generalize (number s).1 = v6
        have e6 : (v6 == v6) = true := beq_self_eq_true _
        go_wp2_with fail
        obtain ⟨Am, nm, cm, hm1, hm2, hm3, hm4⟩ := M6.out
        obtain ⟨d0, d1, _, _⟩ := cells2 hm1
        have hlm := Lib.hid hm4.1.len
        have RQ : Hid (∀ q, Rdr 54 (w6.drewN q) r s6.bad s6.xs) := Lib.hid fun q => rdrDrawn R6.out q
        have MQ : Hid (∀ q, Rdr 46 (w6.drewN q) w4.heap.size s6.bad s6.xs) := Lib.hid fun q => rdrDrawn M6.out q
        have BQ : Hid (∀ q, Below w.heap.size w (w6.drewN q)) := Lib.hid fun q => pw_below_drewN B6.out q
        clear hm1 hm2 hm3 hm4
        obtain ⟨bad6, xs6⟩ := s6
        dsimp only at hlm RQ MQ d1
        cases bad6
        · by_cases hz : nm = 0
          · subst hz
            have he : ended ⟨false, xs6⟩ = true := (by unfold ended; rw [hlm.out]; rfl)
            have HE : Hid (∀ q, Calls Try.prog 21 #[.pointer (some ⟨r, 0, none⟩)] (w6.drewN q) fun e w' => e = .returned (.bool true) ∧ w6.drewN q = w') := Lib.hid fun q => by have := end_any r ⟨false, xs6⟩ _ (RQ.out q); rwa [he] at this
            clear he
            go_quiet (first | (go_at_call 26; exact quiet_left (left_any _ ⟨false, xs6⟩ _ (RQ.out _))) | (go_at_call 27; exact quiet_left (refleft_any _ ⟨false, xs6⟩ _ (MQ.out _))) | (go_at_call 28; exact quiet_left (bad_any _ ⟨false, xs6⟩ _ (RQ.out _))) | (go_at_call 21; exact quiet_left (HE.out _)))
            go_wp2
            go_roundw
            case rel => exact ⟨k + 1, ⟨false, xs6⟩, by omega, by go_num, ⟨RQ.out _⟩, ⟨MQ.out _⟩, ⟨BQ.out _⟩⟩
            case measure => simp [intOf]; omega
          · have hzb : ((nm : Int) == 0) = false := beq_eq_false_iff_ne.2 (by omega)
            have he : ended ⟨false, xs6⟩ = false := (by unfold ended; rw [hlm.out]; show (true && (nm == 0)) = false; rw [beq_eq_false_iff_ne.2 hz]; rfl)
            have HE : Hid (∀ q, Calls Try.prog 21 #[.pointer (some ⟨r, 0, none⟩)] (w6.drewN q) fun e w' => e = .returned (.bool false) ∧ w6.drewN q = w') := Lib.hid fun q => by have := end_any r ⟨false, xs6⟩ _ (RQ.out q); rwa [he] at this
            clear he
            go_quiet (first | (go_at_call 26; exact quiet_left (left_any _ ⟨false, xs6⟩ _ (RQ.out _))) | (go_at_call 27; exact quiet_left (refleft_any _ ⟨false, xs6⟩ _ (MQ.out _))) | (go_at_call 28; exact quiet_left (bad_any _ ⟨false, xs6⟩ _ (RQ.out _))) | (go_at_call 21; exact quiet_left (HE.out _)))
            go_wp2
            go_roundw
            case rel => exact ⟨k + 1, ⟨false, xs6⟩, by omega, by go_num, ⟨RQ.out _⟩, ⟨MQ.out _⟩, ⟨BQ.out _⟩⟩
            case measure => simp [intOf]; omega
        · have he : ended ⟨true, xs6⟩ = false := rfl
          have HE : Hid (∀ q, Calls Try.prog 21 #[.pointer (some ⟨r, 0, none⟩)] (w6.drewN q) fun e w' => e = .returned (.bool false) ∧ w6.drewN q = w') := Lib.hid fun q => by have := end_any r ⟨true, xs6⟩ _ (RQ.out q); rwa [he] at this
          clear he
          go_quiet (first | (go_at_call 26; exact quiet_left (left_any _ ⟨true, xs6⟩ _ (RQ.out _))) | (go_at_call 27; exact quiet_left (refleft_any _ ⟨true, xs6⟩ _ (MQ.out _))) | (go_at_call 28; exact quiet_left (bad_any _ ⟨true, xs6⟩ _ (RQ.out _))) | (go_at_call 21; exact quiet_left (HE.out _)))
          go_wp2
          go_roundw
          case rel => exact ⟨k + 1, ⟨true, xs6⟩, by omega, by go_num, ⟨RQ.out _⟩, ⟨MQ.out _⟩, ⟨BQ.out _⟩⟩
          case measure => simp [intOf]; omega
      · by_cases k1 : kind = 1
        · subst k1
          go_wp2_with fail
          refine (refbytes_any _ _ _ _ HMX.out).mono ?_
          rintro e w5 ⟨A5, n5, c5, rfl, ho, hm5, hg5⟩
          have M5 := Lib.hid hm5
          have R5 := Lib.hid (HRX.out.other HMX.out hrm (by decide) hg5)
          have B5 := Lib.hid (HBX.out.grown hg5 HBX.out.size (fun j e => by cases e; exact hmw))
          have HO5 := Lib.hid ho.rd
          clear ho hm5 hg5
          obtain ⟨s6, hs6⟩ : ∃ s6, (rdr.bytes s 1).2 = s6 := ⟨_, rfl⟩
          obtain ⟨out, hout⟩ : ∃ o, (rdr.bytes s 1).1 = o := ⟨_, rfl⟩
          rw [hs6] at M5
          rw [hout] at HO5
          have HB := Lib.hid (byte_any r s w5 R5.out)
          rw [hs6, hout] at HB
          clear hs6 hout
          have hl := HO5.out.len
          by_cases h1 : n5 = 1
          · subst h1
            obtain ⟨ad, rfl, hcell⟩ := HO5.out.at_ 0 (by decide)
            have hz : ad.add 0 = ad := rfl
            rw [hz] at hcell
            have he : rdr.byteOf out = out.getD 0 0 := by unfold rdr.byteOf; rw [if_pos hl]
            rw [he] at HB
            generalize out.getD 0 0 = b at hcell HB
            clear hl hz he
            have e6 : (b == b) = true := beq_self_eq_true _
            go_wp2_with fail
            refine HB.out.mono ?_
            rintro e w6 ⟨rfl, hr6, hg6⟩
            have R6 := Lib.hid hr6
            have M6 := Lib.hid (M5.out.other R5.out (Ne.symm hrm) (by decide) hg6)
            have B6 := Lib.hid (B5.out.grown hg6 B5.out.size (fun j e => by cases e; exact hrw))
            clear hr6 hg6
            go_wp2_with fail
            obtain ⟨Am, nm, cm, hm1, hm2, hm3, hm4⟩ := M6.out
            obtain ⟨d0, d1, _, _⟩ := cells2 hm1
            have hlm := Lib.hid hm4.1.len
            have RQ : Hid (∀ q, Rdr 54 (w6.drewN q) r s6.bad s6.xs) := Lib.hid fun q => rdrDrawn R6.out q
            have MQ : Hid (∀ q, Rdr 46 (w6.drewN q) w4.heap.size s6.bad s6.xs) := Lib.hid fun q => rdrDrawn M6.out q
            have BQ : Hid (∀ q, Below w.heap.size w (w6.drewN q)) := Lib.hid fun q => pw_below_drewN B6.out q
            clear hm1 hm2 hm3 hm4
            obtain ⟨bad6, xs6⟩ := s6
            dsimp only at hlm RQ MQ d1
            cases bad6
            · by_cases hz : nm = 0
              · subst hz
                have he : ended ⟨false, xs6⟩ = true := (by unfold ended; rw [hlm.out]; rfl)
                have HE : Hid (∀ q, Calls Try.prog 21 #[.pointer (some ⟨r, 0, none⟩)] (w6.drewN q) fun e w' => e = .returned (.bool true) ∧ w6.drewN q = w') := Lib.hid fun q => by have := end_any r ⟨false, xs6⟩ _ (RQ.out q); rwa [he] at this
                clear he
                go_quiet (first | (go_at_call 26; exact quiet_left (left_any _ ⟨false, xs6⟩ _ (RQ.out _))) | (go_at_call 27; exact quiet_left (refleft_any _ ⟨false, xs6⟩ _ (MQ.out _))) | (go_at_call 28; exact quiet_left (bad_any _ ⟨false, xs6⟩ _ (RQ.out _))) | (go_at_call 21; exact quiet_left (HE.out _)))
                go_wp2
                go_roundw
                case rel => exact ⟨k + 1, ⟨false, xs6⟩, by omega, by go_num, ⟨RQ.out _⟩, ⟨MQ.out _⟩, ⟨BQ.out _⟩⟩
                case measure => simp [intOf]; omega
              · have hzb : ((nm : Int) == 0) = false := beq_eq_false_iff_ne.2 (by omega)
                have he : ended ⟨false, xs6⟩ = false := (by unfold ended; rw [hlm.out]; show (true && (nm == 0)) = false; rw [beq_eq_false_iff_ne.2 hz]; rfl)
                have HE : Hid (∀ q, Calls Try.prog 21 #[.pointer (some ⟨r, 0, none⟩)] (w6.drewN q) fun e w' => e = .returned (.bool false) ∧ w6.drewN q = w') := Lib.hid fun q => by have := end_any r ⟨false, xs6⟩ _ (RQ.out q); rwa [he] at this
                clear he
                go_quiet (first | (go_at_call 26; exact quiet_left (left_any _ ⟨false, xs6⟩ _ (RQ.out _))) | (go_at_call 27; exact quiet_left (refleft_any _ ⟨false, xs6⟩ _ (MQ.out _))) | (go_at_call 28; exact quiet_left (bad_any _ ⟨false, xs6⟩ _ (RQ.out _))) | (go_at_call 21; exact quiet_left (HE.out _)))
                go_wp2
                go_roundw
                case rel => exact ⟨k + 1, ⟨false, xs6⟩, by omega, by go_num, ⟨RQ.out _⟩, ⟨MQ.out _⟩, ⟨BQ.out _⟩⟩
                case measure => simp [intOf]; omega
            · have he : ended ⟨true, xs6⟩ = false := rfl
              have HE : Hid (∀ q, Calls Try.prog 21 #[.pointer (some ⟨r, 0, none⟩)] (w6.drewN q) fun e w' => e = .returned (.bool false) ∧ w6.drewN q = w') := Lib.hid fun q => by have := end_any r ⟨true, xs6⟩ _ (RQ.out q); rwa [he] at this
              clear he
              go_quiet (first | (go_at_call 26; exact quiet_left (left_any _ ⟨true, xs6⟩ _ (RQ.out _))) | (go_at_call 27; exact quiet_left (refleft_any _ ⟨true, xs6⟩ _ (MQ.out _))) | (go_at_call 28; exact quiet_left (bad_any _ ⟨true, xs6⟩ _ (RQ.out _))) | (go_at_call 21; exact quiet_left (HE.out _)))
              go_wp2
              go_roundw
              case rel => exact ⟨k + 1, ⟨true, xs6⟩, by omega, by go_num, ⟨RQ.out _⟩, ⟨MQ.out _⟩, ⟨BQ.out _⟩⟩
              case measure => simp [intOf]; omega
          · have he : rdr.byteOf out = 0 := by unfold rdr.byteOf; rw [if_neg (by omega)]
            rw [he] at HB
            have hb : ((n5 : Int) == 1) = false := beq_eq_false_iff_ne.2 (by omega)
            clear hl h1 he
            go_wp2_with fail
            refine HB.out.mono ?_
            rintro e w6 ⟨rfl, hr6, hg6⟩
            have R6 := Lib.hid hr6
            have M6 := Lib.hid (M5.out.other R5.out (Ne.symm hrm) (by decide) hg6)
            have B6 := Lib.hid (B5.out.grown hg6 B5.out.size (fun j e => by cases e; exact hrw))
            clear hr6 hg6
            go_wp2_with fail
            obtain ⟨Am, nm, cm, hm1, hm2, hm3, hm4⟩ := M6.out
            obtain ⟨d0, d1, _, _⟩ := cells2 hm1
            have hlm := Lib.hid hm4.1.len
            have RQ : Hid (∀ q, Rdr 54 (w6.drewN q) r s6.bad s6.xs) := Lib.hid fun q => rdrDrawn R6.out q
            have MQ : Hid (∀ q, Rdr 46 (w6.drewN q) w4.heap.size s6.bad s6.xs) := Lib.hid fun q => rdrDrawn M6.out q
            have BQ : Hid (∀ q, Below w.heap.size w (w6.drewN q)) := Lib.hid fun q => pw_below_drewN B6.out q
            clear hm1 hm2 hm3 hm4
            obtain ⟨bad6, xs6⟩ := s6
            dsimp only at hlm RQ MQ d1
            cases bad6
            · by_cases hz : nm = 0
              · subst hz
                have he : ended ⟨false, xs6⟩ = true := (by unfold ended; rw [hlm.out]; rfl)
                have HE : Hid (∀ q, Calls Try.prog 21 #[.pointer (some ⟨r, 0, none⟩)] (w6.drewN q) fun e w' => e = .returned (.bool true) ∧ w6.drewN q = w') := Lib.hid fun q => by have := end_any r ⟨false, xs6⟩ _ (RQ.out q); rwa [he] at this
                clear he
                go_quiet (first | (go_at_call 26; exact quiet_left (left_any _ ⟨false, xs6⟩ _ (RQ.out _))) | (go_at_call 27; exact quiet_left (refleft_any _ ⟨false, xs6⟩ _ (MQ.out _))) | (go_at_call 28; exact quiet_left (bad_any _ ⟨false, xs6⟩ _ (RQ.out _))) | (go_at_call 21; exact quiet_left (HE.out _)))
                go_wp2
                go_roundw
                case rel => exact ⟨k + 1, ⟨false, xs6⟩, by omega, by go_num, ⟨RQ.out _⟩, ⟨MQ.out _⟩, ⟨BQ.out _⟩⟩
                case measure => simp [intOf]; omega
              · have hzb : ((nm : Int) == 0) = false := beq_eq_false_iff_ne.2 (by omega)
                have he : ended ⟨false, xs6⟩ = false := (by unfold ended; rw [hlm.out]; show (true && (nm == 0)) = false; rw [beq_eq_false_iff_ne.2 hz]; rfl)
                have HE : Hid (∀ q, Calls Try.prog 21 #[.pointer (some ⟨r, 0, none⟩)] (w6.drewN q) fun e w' => e = .returned (.bool false) ∧ w6.drewN q = w') := Lib.hid fun q => by have := end_any r ⟨false, xs6⟩ _ (RQ.out q); rwa [he] at this
                clear he
                go_quiet (first | (go_at_call 26; exact quiet_left (left_any _ ⟨false, xs6⟩ _ (RQ.out _))) | (go_at_call 27; exact quiet_left (refleft_any _ ⟨false, xs6⟩ _ (MQ.out _))) | (go_at_call 28; exact quiet_left (bad_any _ ⟨false, xs6⟩ _ (RQ.out _))) | (go_at_call 21; exact quiet_left (HE.out _)))
                go_wp2
                go_roundw
                case rel => exact ⟨k + 1, ⟨false, xs6⟩, by omega, by go_num, ⟨RQ.out _⟩, ⟨MQ.out _⟩, ⟨BQ.out _⟩⟩
                case measure => simp [intOf]; omega
            · have he : ended ⟨true, xs6⟩ = false := rfl
              have HE : Hid (∀ q, Calls Try.prog 21 #[.pointer (some ⟨r, 0, none⟩)] (w6.drewN q) fun e w' => e = .returned (.bool false) ∧ w6.drewN q = w') := Lib.hid fun q => by have := end_any r ⟨true, xs6⟩ _ (RQ.out q); rwa [he] at this
              clear he
              go_quiet (first | (go_at_call 26; exact quiet_left (left_any _ ⟨true, xs6⟩ _ (RQ.out _))) | (go_at_call 27; exact quiet_left (refleft_any _ ⟨true, xs6⟩ _ (MQ.out _))) | (go_at_call 28; exact quiet_left (bad_any _ ⟨true, xs6⟩ _ (RQ.out _))) | (go_at_call 21; exact quiet_left (HE.out _)))
              go_wp2
              go_roundw
              case rel => exact ⟨k + 1, ⟨true, xs6⟩, by omega, by go_num, ⟨RQ.out _⟩, ⟨MQ.out _⟩, ⟨BQ.out _⟩⟩
              case measure => simp [intOf]; omega
        · by_cases k2 : kind = 2
          · subst k2
            have hc2 : (wr.alloc (.cells #[.int .i64 2, .int .i64 num] 48)).cell? ⟨wr.heap.size, 1, none⟩ = some (.int .i64 num) := by
              unfold World.cell?
              rw [show (wr.alloc (.cells #[.int .i64 2, .int .i64 num] 48)).heap[wr.heap.size]? = some (.cells #[.int .i64 2, .int .i64 num] 48) from by show (wr.heap.push _)[wr.heap.size]? = _; simp]
              rfl
            have hsz : wr.heap.size < (wr.alloc (.cells #[.int .i64 2, .int .i64 num] 48)).heap.size := by show _ < (wr.heap.push _).size; simp
            have hbr : wr.heap.size ≠ r := by have := HSr.out.lt; omega
            have hbm : wr.heap.size ≠ w4.heap.size := by have := HSm.out.lt; omega
            go_wp2_with fail
            have HRD := Lib.hid (HRX.out.below (Below.refl _ _).drew)
            have HMD := Lib.hid (HMX.out.below (Below.refl _ _).drew)
            have HBD := Lib.hid HBX.out.drew
            obtain ⟨s6, hs6⟩ : ∃ s6, (rdr.bytes s num).2 = s6 := ⟨_, rfl⟩
            obtain ⟨out, hout⟩ : ∃ o, (rdr.bytes s num).1 = o := ⟨_, rfl⟩
            have HS6 := Lib.hid hs6
            have HOut := Lib.hid hout
            clear hs6 hout
            go_region_held3 (fun W => W.cell? ⟨wr.heap.size, 1, none⟩ = some (.int .i64 num)) (first | assumption | exact hc2) (first | (go_at_call 20; refine (bytes_any _ s num _ HRD.out).mono ?_; rintro e w5 ⟨A5, n5, c5, rfl, ho, hr5, hg5⟩; have R5 := Lib.hid hr5; have M5 := Lib.hid (HMD.out.other HRD.out (Ne.symm hrm) (by decide) hg5); have B5 := Lib.hid (HBD.out.grown hg5 HBD.out.size (fun j e => by cases e; exact hrw)); have hc5 := (World.cell?_of_block (hg5.block _ hsz (fun e => hbr (by simpa using e)))).trans hc2; rw [HOut.out] at ho; rw [HS6.out] at R5; have HO5 := Lib.hid (OwB.rdT ho); clear ho hr5 hg5) | (go_at_call 24; refine (refbytes_any _ s num _ M5.out).mono ?_; rintro e w7 ⟨A7, n7, c7, rfl, ho, hm7, hg7⟩; have M7 := Lib.hid hm7; have R7 := Lib.hid (R5.out.other M5.out hrm (by decide) hg7); have B7 := Lib.hid (B5.out.grown hg7 B5.out.size (fun j e => by cases e; exact hmw)); have hc7 := (World.cell?_of_block (hg7.block _ (by have := (World.block_lt_of_cell? _ _ hc5); exact this) (fun e => hbm (by simpa using e)))).trans hc5; rw [HOut.out] at ho; rw [HS6.out] at M7; have HO7 := Lib.hid ho.rd; have HP7 := Lib.hid (rdtOther HO5.out M5.out (by decide) hg7).1; clear ho hm7 hg7) | (go_at_call 15; refine (same_any _ _ _ _ _ _ _ _ _ HP7.out HO7.out).mono ?_; rintro e w8 ⟨rfl, ⟨q, rfl⟩⟩; rw [eqL_self]))
            go_wp2_with fail
            have R6 := Lib.hid (rdrDrawn R7.out q)
            have M6 := Lib.hid (rdrDrawn M7.out q)
            have B6 := Lib.hid (pw_below_drewN B7.out q)
            clear R7 M7 B7 HO7 HP7 hc7 hc5 HO5 R5 M5 B5
            generalize w7.drewN q = w6 at R6 M6 B6 ⊢
            obtain ⟨Am, nm, cm, hm1, hm2, hm3, hm4⟩ := M6.out
            obtain ⟨d0, d1, _, _⟩ := cells2 hm1
            have hlm := Lib.hid hm4.1.len
            have RQ : Hid (∀ q, Rdr 54 (w6.drewN q) r s6.bad s6.xs) := Lib.hid fun q => rdrDrawn R6.out q
            have MQ : Hid (∀ q, Rdr 46 (w6.drewN q) w4.heap.size s6.bad s6.xs) := Lib.hid fun q => rdrDrawn M6.out q
            have BQ : Hid (∀ q, Below w.heap.size w (w6.drewN q)) := Lib.hid fun q => pw_below_drewN B6.out q
            clear hm1 hm2 hm3 hm4
            obtain ⟨bad6, xs6⟩ := s6
            dsimp only at hlm RQ MQ d1
            cases bad6
            · by_cases hz : nm = 0
              · subst hz
                have he : ended ⟨false, xs6⟩ = true := (by unfold ended; rw [hlm.out]; rfl)
                have HE : Hid (∀ q, Calls Try.prog 21 #[.pointer (some ⟨r, 0, none⟩)] (w6.drewN q) fun e w' => e = .returned (.bool true) ∧ w6.drewN q = w') := Lib.hid fun q => by have := end_any r ⟨false, xs6⟩ _ (RQ.out q); rwa [he] at this
                clear he
                go_quiet (first | (go_at_call 26; exact quiet_left (left_any _ ⟨false, xs6⟩ _ (RQ.out _))) | (go_at_call 27; exact quiet_left (refleft_any _ ⟨false, xs6⟩ _ (MQ.out _))) | (go_at_call 28; exact quiet_left (bad_any _ ⟨false, xs6⟩ _ (RQ.out _))) | (go_at_call 21; exact quiet_left (HE.out _)))
                go_wp2
                go_roundw
                case rel => exact ⟨k + 1, ⟨false, xs6⟩, by omega, by go_num, ⟨RQ.out _⟩, ⟨MQ.out _⟩, ⟨BQ.out _⟩⟩
                case measure => simp [intOf]; omega
              · have hzb : ((nm : Int) == 0) = false := beq_eq_false_iff_ne.2 (by omega)
                have he : ended ⟨false, xs6⟩ = false := (by unfold ended; rw [hlm.out]; show (true && (nm == 0)) = false; rw [beq_eq_false_iff_ne.2 hz]; rfl)
                have HE : Hid (∀ q, Calls Try.prog 21 #[.pointer (some ⟨r, 0, none⟩)] (w6.drewN q) fun e w' => e = .returned (.bool false) ∧ w6.drewN q = w') := Lib.hid fun q => by have := end_any r ⟨false, xs6⟩ _ (RQ.out q); rwa [he] at this
                clear he
                go_quiet (first | (go_at_call 26; exact quiet_left (left_any _ ⟨false, xs6⟩ _ (RQ.out _))) | (go_at_call 27; exact quiet_left (refleft_any _ ⟨false, xs6⟩ _ (MQ.out _))) | (go_at_call 28; exact quiet_left (bad_any _ ⟨false, xs6⟩ _ (RQ.out _))) | (go_at_call 21; exact quiet_left (HE.out _)))
                go_wp2
                go_roundw
                case rel => exact ⟨k + 1, ⟨false, xs6⟩, by omega, by go_num, ⟨RQ.out _⟩, ⟨MQ.out _⟩, ⟨BQ.out _⟩⟩
                case measure => simp [intOf]; omega
            · have he : ended ⟨true, xs6⟩ = false := rfl
              have HE : Hid (∀ q, Calls Try.prog 21 #[.pointer (some ⟨r, 0, none⟩)] (w6.drewN q) fun e w' => e = .returned (.bool false) ∧ w6.drewN q = w') := Lib.hid fun q => by have := end_any r ⟨true, xs6⟩ _ (RQ.out q); rwa [he] at this
              clear he
              go_quiet (first | (go_at_call 26; exact quiet_left (left_any _ ⟨true, xs6⟩ _ (RQ.out _))) | (go_at_call 27; exact quiet_left (refleft_any _ ⟨true, xs6⟩ _ (MQ.out _))) | (go_at_call 28; exact quiet_left (bad_any _ ⟨true, xs6⟩ _ (RQ.out _))) | (go_at_call 21; exact quiet_left (HE.out _)))
              go_wp2
              go_roundw
              case rel => exact ⟨k + 1, ⟨true, xs6⟩, by omega, by go_num, ⟨RQ.out _⟩, ⟨MQ.out _⟩, ⟨BQ.out _⟩⟩
              case measure => simp [intOf]; omega
          · have k0' : (kind == 0) = false := beq_eq_false_iff_ne.2 k0
            have k1' : (kind == 1) = false := beq_eq_false_iff_ne.2 k1
            have k2' : (kind == 2) = false := beq_eq_false_iff_ne.2 k2
            go_wp2_with fail
            generalize wr.alloc (.cells #[.int .i64 kind, .int .i64 num] 48) = w6 at HRX HMX HBX ⊢
            have R6 := HRX
            have M6 := HMX
            have B6 := HBX
            obtain ⟨s6, hs6⟩ : ∃ s6, s = s6 := ⟨_, rfl⟩
            rw [hs6] at R6 M6
            clear hs6 HRX HMX HBX
            obtain ⟨Am, nm, cm, hm1, hm2, hm3, hm4⟩ := M6.out
            obtain ⟨d0, d1, _, _⟩ := cells2 hm1
            have hlm := Lib.hid hm4.1.len
            have RQ : Hid (∀ q, Rdr 54 (w6.drewN q) r s6.bad s6.xs) := Lib.hid fun q => rdrDrawn R6.out q
            have MQ : Hid (∀ q, Rdr 46 (w6.drewN q) w4.heap.size s6.bad s6.xs) := Lib.hid fun q => rdrDrawn M6.out q
            have BQ : Hid (∀ q, Below w.heap.size w (w6.drewN q)) := Lib.hid fun q => pw_below_drewN B6.out q
            clear hm1 hm2 hm3 hm4
            obtain ⟨bad6, xs6⟩ := s6
            dsimp only at hlm RQ MQ d1
            cases bad6
            · by_cases hz : nm = 0
              · subst hz
                have he : ended ⟨false, xs6⟩ = true := (by unfold ended; rw [hlm.out]; rfl)
                have HE : Hid (∀ q, Calls Try.prog 21 #[.pointer (some ⟨r, 0, none⟩)] (w6.drewN q) fun e w' => e = .returned (.bool true) ∧ w6.drewN q = w') := Lib.hid fun q => by have := end_any r ⟨false, xs6⟩ _ (RQ.out q); rwa [he] at this
                clear he
                go_quiet (first | (go_at_call 26; exact quiet_left (left_any _ ⟨false, xs6⟩ _ (RQ.out _))) | (go_at_call 27; exact quiet_left (refleft_any _ ⟨false, xs6⟩ _ (MQ.out _))) | (go_at_call 28; exact quiet_left (bad_any _ ⟨false, xs6⟩ _ (RQ.out _))) | (go_at_call 21; exact quiet_left (HE.out _)))
                go_wp2
                go_roundw
                case rel => exact ⟨k + 1, ⟨false, xs6⟩, by omega, by go_num, ⟨RQ.out _⟩, ⟨MQ.out _⟩, ⟨BQ.out _⟩⟩
                case measure => simp [intOf]; omega
              · have hzb : ((nm : Int) == 0) = false := beq_eq_false_iff_ne.2 (by omega)
                have he : ended ⟨false, xs6⟩ = false := (by unfold ended; rw [hlm.out]; show (true && (nm == 0)) = false; rw [beq_eq_false_iff_ne.2 hz]; rfl)
                have HE : Hid (∀ q, Calls Try.prog 21 #[.pointer (some ⟨r, 0, none⟩)] (w6.drewN q) fun e w' => e = .returned (.bool false) ∧ w6.drewN q = w') := Lib.hid fun q => by have := end_any r ⟨false, xs6⟩ _ (RQ.out q); rwa [he] at this
                clear he
                go_quiet (first | (go_at_call 26; exact quiet_left (left_any _ ⟨false, xs6⟩ _ (RQ.out _))) | (go_at_call 27; exact quiet_left (refleft_any _ ⟨false, xs6⟩ _ (MQ.out _))) | (go_at_call 28; exact quiet_left (bad_any _ ⟨false, xs6⟩ _ (RQ.out _))) | (go_at_call 21; exact quiet_left (HE.out _)))
                go_wp2
                go_roundw
                case rel => exact ⟨k + 1, ⟨false, xs6⟩, by omega, by go_num, ⟨RQ.out _⟩, ⟨MQ.out _⟩, ⟨BQ.out _⟩⟩
                case measure => simp [intOf]; omega
            · have he : ended ⟨true, xs6⟩ = false := rfl
              have HE : Hid (∀ q, Calls Try.prog 21 #[.pointer (some ⟨r, 0, none⟩)] (w6.drewN q) fun e w' => e = .returned (.bool false) ∧ w6.drewN q = w') := Lib.hid fun q => by have := end_any r ⟨true, xs6⟩ _ (RQ.out q); rwa [he] at this
              clear he
              go_quiet (first | (go_at_call 26; exact quiet_left (left_any _ ⟨true, xs6⟩ _ (RQ.out _))) | (go_at_call 27; exact quiet_left (refleft_any _ ⟨true, xs6⟩ _ (MQ.out _))) | (go_at_call 28; exact quiet_left (bad_any _ ⟨true, xs6⟩ _ (RQ.out _))) | (go_at_call 21; exact quiet_left (HE.out _)))
              go_wp2
              go_roundw
              case rel => exact ⟨k + 1, ⟨true, xs6⟩, by omega, by go_num, ⟨RQ.out _⟩, ⟨MQ.out _⟩, ⟨BQ.out _⟩⟩
              case measure => simp [intOf]; omega
    · go_wp2_with (first | (go_at_call 22; refine (nilNumber _).mono ?_; rintro e w' ⟨rfl, rfl⟩) | (go_at_call 25; refine (nilByte _).mono ?_; rintro e w' ⟨rfl, rfl⟩) | (go_at_call 20; refine (nilBytes _ _).mono ?_; rintro e w' ⟨rfl, rfl⟩) | (go_at_call 26; refine (nilLeft _).mono ?_; rintro e w' ⟨rfl, rfl⟩) | (go_at_call 28; refine (nilBad _).mono ?_; rintro e w' ⟨rfl, rfl⟩) | (go_at_call 21; refine (nilEnd _).mono ?_; rintro e w' ⟨rfl, rfl⟩))
      go_ret
      exact ⟨rfl, HBk.out⟩
end Go.Proofs.Ytlbhmbbmpmhcjaa.packl
