/- The law's wakes and the walk of the law FrameMakes. -/
import Derived.Test.YtjebmlfcdnpepaaDoorFrameMake
import Derived.Lib.SlBytesConst
set_option linter.unusedVariables false
set_option linter.unusedSimpArgs false
namespace Go.Proofs.YtjebmlfcdnpepaaDoor.framel
open Go.RowKit Go.Proofs.YtjebmlfcdnpepaaDoorW.PrintWords Go.Proofs.YtjebmlfcdnpepaaDoor.base Go.Proofs.YtjebmlfcdnpepaaDoor.mem Go.Proofs.YtjebmlfcdnpepaaDoor.crcp Go.Proofs.YtjebmlfcdnpepaaDoor.crcw Go.Proofs.YtjebmlfcdnpepaaDoor.samew Go.Proofs.YtjebmlfcdnpepaaDoor.framep Go.Proofs.YtjebmlfcdnpepaaDoor.framew Go.Proofs.YtjebmlfcdnpepaaDoor.frameit Go.Proofs.YtjebmlfcdnpepaaDoor.framem

theorem le4_len (S : Int) : (le4 S).length = 4 := rfl
theorem fenc_len (xs : List Int) : (fenc xs).length = 8 + xs.length := by simp [fenc, le4_len]; omega
theorem By_fenc {xs : List Int} (hx : By xs) (h : xs.length ≤ 1048576) : By (fenc xs) := (((By_le4 (U32_len h)).append (By_le4 (U32_parts 0 ⟨by decide, by decide⟩ _))).append hx)
theorem firstN_fenc (xs more : List Int) (h : xs.length ≤ 1048576) : firstN (fenc xs ++ more) = 8 + xs.length := by
  have e1 : w4 (fenc xs ++ more) = xs.length := by
    unfold fenc
    rw [List.append_assoc, List.append_assoc]
    exact w4_le4 (U32_len h) _
  have e2 : (fenc xs ++ more).take 4 = le4 xs.length := rfl
  have e3 : (fenc xs ++ more).drop 8 = xs ++ more := rfl
  have e4 : (fenc xs ++ more).drop 4 = le4 (parts 0 [le4 xs.length, xs]) ++ (xs ++ more) := rfl
  unfold firstN
  rw [e1, e2, e3, e4, w4_le4 (U32_parts 0 ⟨by decide, by decide⟩ _), Int.toNat_natCast, List.take_left, List.length_append, fenc_len, if_neg (by omega), if_neg]
  intro hh
  rcases hh with hh | hh | hh
  · omega
  · omega
  · exact hh rfl
theorem fitems_fenc (f p : Nat) (xs more : List Int) (h : xs.length ≤ 1048576) : fitems (f + 1) p (fenc xs ++ more) = (p, xs.length) :: fitems f (p + (8 + xs.length)) more := by
  have e := firstN_fenc xs more h
  rw [fitems_next _ _ _ (by omega), e, show 8 + xs.length - 8 = xs.length from by omega, List.drop_left' (fenc_len xs)]
theorem firstN_nil : firstN [] = 0 := rfl
theorem flist_one (xs : List Int) (h : xs.length ≤ 1048576) : flist (fenc xs) = [(0, xs.length)] := by
  unfold flist
  rw [fenc_len, show 8 + xs.length = (7 + xs.length) + 1 from by omega]
  have := fitems_fenc (7 + xs.length) 0 xs [] h
  rw [List.append_nil] at this
  rw [this, fitems_end _ _ _ firstN_nil]
set_option maxHeartbeats 1000000 in
theorem wakes_any (w : World) (ht : Table w) :
    Calls Tryd.prog 9 #[] w fun e w' => e = .returned (.bool true) ∧ Below w.heap.size w w' := by
  have HL := Lib.hid (litB w (1, 2) [97] (Nat.le_of_ble_eq_true rfl) (By_of _ (by decide)))
  have B1 := Lib.hid (below_alloc (Below.refl w.heap.size w) (.cells (nums .u8 [97]).toArray 5 (1, 2)))
  have hs1 := B1.out.size
  have HT1 := Lib.hid (ht.below B1.out)
  have HE := Lib.hid (encode_any _ _ 1 [97] _ HL.out (Nat.le_refl _) HT1.out)
  have h0 : (fenc [97]).getD 0 0 = 1 := rfl
  have h8 : (fenc [97]).getD 8 0 = 97 := rfl
  have HN : Hid (endL (flist (fenc [97])) = 9) := Lib.hid (by rw [flist_one _ (by decide)]; rfl)
  have HLn : Hid ((fenc [97]).length = 9) := Lib.hid (fenc_len _)
  generalize fenc [97] = E at HE h0 h8 HN HLn
  clear ht
  have kc := fun (w : World) (C : Array Value) (n c : Nat) => Lib.run_convert_bytes_const (P := Tryd.prog) w 22 5 C n c Tryd.underlying22 Tryd.underlying5
  go_enter Tryd.func9, Tryd.ntmps9
  go_wp2_with fail
  refine HE.out.mono ?_
  rintro e w2 ⟨A2, n2, c2, rfl, ho, hb⟩
  have ho : OwB w2 (w.alloc (.cells (nums .u8 [97]).toArray 5 (1, 2))).heap.size A2 n2 c2 E := ho
  have hl := ho.len
  rw [HLn.out] at hl
  subst hl
  obtain ⟨g2, rfl, hg2, hg3⟩ := ho.form (by decide)
  have HO2 := Lib.hid ho
  have B2 := Lib.hid (B1.out.trans (hb.mono hs1))
  have HT2 := Lib.hid (HT1.out.below hb)
  have a0 := (ho.at_ 0 (by decide)).1
  have a8 := (ho.at_ 8 (by decide)).1
  rw [h0] at a0
  rw [h8] at a8
  clear ho hb
  go_wp2_with fail
  refine (end_any _ _ _ _ _ HO2.out.rd (by omega) HT2.out).mono ?_
  rintro e w3 ⟨rfl, hb3⟩
  rw [HN.out]
  have B3 := Lib.hid (B2.out.trans (hb3.mono B2.out.size))
  clear hb3
  go_wp2
  go_ret
  exact ⟨rfl, B3.out⟩
set_option maxHeartbeats 1000000 in
theorem makesLaw (A : Option Addr) (n c : Nat) (xs : List Int) (w : World) (hr : RdB w A n xs) (hc : n ≤ c) (hn : n * 1 ≤ 140737488351232) (ht : Table w) :
    Calls Tryd.prog 3 #[.slice A n c] w fun e w' => e = .returned (.bool true) ∧ Below w.heap.size w w' := by
  have HT := Lib.hid ht
  have HR := Lib.hid hr
  have HEn := Lib.hid (fun W h t => encode_any A n c xs W h hc t)
  have HEn' := Lib.hid (fun W h => refencode_any A n c xs W h hc)
  clear ht hr hn
  generalize decide (n ≤ 1048576) = b at HEn HEn'
  generalize fenc xs = EE at HEn HEn'
  obtain ⟨E, hE⟩ : ∃ E : List Int, (if b = true then EE else []) = E := ⟨_, rfl⟩
  obtain ⟨r, hrr⟩ : ∃ r : Int, (if b = true then (0 : Int) else 3) = r := ⟨_, rfl⟩
  have hrb : (r == r) = true := beq_self_eq_true _
  unfold RetE at HEn HEn'
  rw [hE, hrr] at HEn HEn'
  clear hE hrr
  go_enter Tryd.func3, Tryd.ntmps3
  go_wp2_with fail
  refine (wakes_any _ HT.out).mono ?_
  rintro e w2 ⟨rfl, hb⟩
  have B2 := Lib.hid hb
  have hs2 := hb.size
  clear hb
  go_wp2_with fail
  refine (HEn.out _ (HR.out.below B2.out) (HT.out.below B2.out)).mono ?_
  rintro e w3 ⟨A3, n3, c3, rfl, ho, hb⟩
  have B3 := Lib.hid (B2.out.trans (hb.mono hs2))
  have hs3 := B3.out.size
  have HE3 := Lib.hid ho.rd
  clear ho hb
  go_wp2_with fail
  refine (HEn'.out _ (HR.out.below B3.out)).mono ?_
  rintro e w4 ⟨A4, n4, c4, rfl, ho, hb⟩
  have B4 := Lib.hid (B3.out.trans (hb.mono hs3))
  have HE4 := Lib.hid ho.rd
  have HD4 := Lib.hid (HE3.out.below hb)
  clear ho hb
  go_wp2_with fail
  refine (same_any _ _ _ _ _ _ _ _ _ HD4.out HE4.out).mono ?_
  rintro e w5 ⟨rfl, ⟨q, rfl⟩⟩
  rw [eqL_self]
  go_wp2
  go_ret
  exact ⟨rfl, pw_below_drewN B4.out _⟩
end Go.Proofs.YtjebmlfcdnpepaaDoor.framel
