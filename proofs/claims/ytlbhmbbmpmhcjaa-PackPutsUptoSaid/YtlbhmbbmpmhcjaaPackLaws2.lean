/- The walks of the laws PackPuts, PackBack. -/
import Derived.Test.YtlbhmbbmpmhcjaaPackWalk3
import Derived.Test.YtlbhmbbmpmhcjaaPackPure2
import Derived.StillTailTactics
import Derived.OpenShut
set_option linter.unusedVariables false
set_option linter.unusedSimpArgs false
namespace Go.Proofs.Ytlbhmbbmpmhcjaa.packl
open Go.RowKit Go.Proofs.YtlbhmbbmpmhcjaaW.PrintWords Go.Proofs.Ytlbhmbbmpmhcjaa.base Go.Proofs.Ytlbhmbbmpmhcjaa.mem Go.Proofs.Ytlbhmbbmpmhcjaa.packp Go.Proofs.Ytlbhmbbmpmhcjaa.packw Go.Proofs.Ytlbhmbbmpmhcjaa.samew

set_option maxHeartbeats 1000000 in
set_option maxRecDepth 100000 in
theorem putsLaw (A : Option Addr) (n c : Nat) (xs : List Int) (A' : Option Addr) (m c' : Nat) (zs : List Int) (w : World) (hr : RdB w A n xs) (_ : n ≤ c) (hn : n + 1 ≤ 1048576) (hz : ReadsInt w .i64 A' m zs) (hw : ∀ z ∈ zs, (Lit.int .i64 z).wf = true) (_ : m ≤ c') (hm : m + 1 ≤ 1048576) :
    Calls Try.prog 5 #[.slice A n c, .slice A' m c'] w fun e w' => e = .returned (.bool true) ∧ Below w.heap.size w w' := by
  have HR := Lib.hid hr
  have HZ := Lib.hid hz
  have HW : Hid (∀ z ∈ zs, -9223372036854775808 ≤ z ∧ z ≤ 9223372036854775807) := Lib.hid fun z h => bounds_i64 (hw z h)
  clear hr hz hw
  go_enter Try.func5, Try.ntmps5
  go_wp2_with fail
  refine (wakes_any _).mono ?_
  rintro e w1 ⟨rfl, hb⟩
  have HB1 := Lib.hid hb
  have hs1 := hb.size
  clear hb
  go_wp2_with (first | (at_builtin; refine app (w0 := w) (base := w.heap.size) rfl (.tmp 10) (.tmp 11) rfl rfl rfl (OwB.lit0 w1 _ hs1) (HR.out.below (HB1.out.alloc hs1 _)) (HB1.out.alloc hs1 _) ?s2 ?l2 ?_; (case s2 => simp; omega); (case l2 => omega); intro A2 n2 c2 w2 ho hb; have hL1 := ho.len; rw [List.nil_append] at ho; rw [List.nil_append, HR.out.len] at hL1; subst hL1; have HO2 := Lib.hid ho; have HB2 := Lib.hid hb; clear ho hb))
  go_loopw [5, 15] (fun o i wr => ∃ (k : Nat) (A1 : Option Addr) (n1 c1 : Nat), k ≤ m ∧ i = .int .i64 k ∧ o = .slice A1 n1 c1 ∧ n1 ≤ n + 9 * k ∧ Aside0 (RdB wr A1 n1 (xs ++ encAll (zs.take k))) ∧ Aside0 (Below w.heap.size w wr)) (fun _ i _ => m - (intOf i).toNat)
  case atStart => exact ⟨0, A2, n, c2, by omega, rfl, rfl, by omega, ⟨by simpa [encAll] using HO2.out.rd⟩, ⟨HB2.out⟩⟩
  case round =>
    obtain ⟨k, A1, n1, c1, hk, rfl, rfl, hn1, HO, HB⟩ := hrel
    by_cases hlt : k < m
    · obtain ⟨ad, rfl, hall⟩ := (HZ.out.below HB.out).2.2 (by omega)
      have hcell := hall k hlt
      have hzl := HZ.out.1
      have hzb := HW.out (zs.getD k 0) (by rw [List.getD_eq_getElem?_getD, List.getElem?_eq_getElem (by omega)]; exact List.getElem_mem _)
      have HS := Aside0.mk (take_snoc zs k (by omega))
      generalize zs.getD k 0 = z at hcell hzb HS
      have hel := encI_len z hzb.2
      have HZB := Lib.hid hzb
      have HEL := Lib.hid hel
      clear hall hzl hzb hel
      go_wp2_with fail
      refine (refput_any _ _ _ _ _ _ HO.out HZB.out.2 (by omega)).mono ?_
      rintro e w2 ⟨A5, n5, c5, rfl, ho, hb⟩
      have HE : Aside0 (xs ++ encAll (zs.take k) ++ encI z = xs ++ encAll (zs.take (k + 1))) := ⟨by rw [HS.out, encAll_snoc, List.append_assoc]⟩
      rw [HE.out] at ho
      have hl5 := ho.len
      rw [← HE.out, List.length_append, HO.out.len] at hl5
      have hn5 : n5 ≤ n + 9 * (k + 1) := by have := HEL.out.2; omega
      have HB2 := Lib.hid (HB.out.trans (hb.mono HB.out.size))
      have HO2 := Lib.hid ho.rd
      clear ho hb hl5
      go_wp2_with fail
      refine (size_any _ _ HZB.out).mono ?_
      rintro e w3 ⟨rfl, hb⟩
      have HB3 := Lib.hid (HB2.out.trans (hb.mono HB2.out.size))
      have HO3 := Lib.hid (HO2.out.below hb)
      clear hb
      go_wp2_with fail
      refine (refput_any _ _ _ _ _ _ (nilB _) HZB.out.2 (by omega)).mono ?_
      rintro e w4 ⟨A6, n6, c6, rfl, ho, hb⟩
      have hl6 := ho.len
      rw [List.nil_append] at hl6
      have HB4 := Lib.hid (HB3.out.trans (hb.mono HB3.out.size))
      have HO4 := Lib.hid (HO3.out.below hb)
      subst hl6
      clear ho hb
      go_wp2
      go_roundw
      case rel => exact ⟨k + 1, A5, n5, c5, by omega, by go_num, rfl, hn5, ⟨HO4.out⟩, ⟨HB4.out⟩⟩
      case measure => simp [intOf]; omega
    · obtain rfl : k = m := by omega
      have HF : Hid (RdB wr A1 n1 (xs ++ encAll zs)) := Lib.hid (by have := HO.out; rwa [List.take_of_length_le (by have := HZ.out.1; omega)] at this)
      have HR2 := Lib.hid (HR.out.below HB.out)
      have HZ2 := Lib.hid (HZ.out.below HB.out)
      clear HO
      go_wp2_with fail
      refine (put_any _ _ _ _ _ _ _ _ _ HR2.out HZ2.out HW.out (by omega)).mono ?_
      rintro e w2 ⟨A5, n5, c5, rfl, ho, hb⟩
      have HB2 := Lib.hid (HB.out.trans (hb.mono HB.out.size))
      have HO2 := Lib.hid ho.rd
      have HF2 := Lib.hid (HF.out.below hb)
      clear ho hb
      go_wp2_with fail
      refine (same_any _ _ _ _ _ _ _ _ _ HO2.out HF2.out).mono ?_
      rintro e w3 ⟨rfl, ⟨q, rfl⟩⟩
      rw [eqL_self]
      go_wp2
      go_ret
      exact ⟨rfl, pw_below_drewN HB2.out _⟩
end Go.Proofs.Ytlbhmbbmpmhcjaa.packl
