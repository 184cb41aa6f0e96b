/- The walk of the law CrcKeeps. -/
import Derived.Test.YtjhmmnbjedkkdaaDoorCrcWalk2
import Derived.Test.YtjhmmnbjedkkdaaDoorMem
import Derived.Outline
import Derived.WalkSpells
import Derived.WalkLawsBesides
import Derived.Deep.QuietTactic
import Derived.BigQuiet
import Derived.StillTailTactics
set_option linter.unusedVariables false
set_option linter.unusedSimpArgs false
namespace Go.Proofs.YtjhmmnbjedkkdaaDoor.crcl
open Go.RowKit Go.Proofs.YtjhmmnbjedkkdaaDoorW.PrintWords Go.Proofs.YtjhmmnbjedkkdaaDoor.base Go.Proofs.YtjhmmnbjedkkdaaDoor.crcp Go.Proofs.YtjhmmnbjedkkdaaDoor.crcw Go.Proofs.YtjhmmnbjedkkdaaDoor.mem

set_option maxHeartbeats 1600000 in
set_option maxRecDepth 100000 in
theorem keepsLaw (A : Option Addr) (n c : Nat) (xs : List Int) (A' : Option Addr) (n' c' : Nat) (ys : List Int) (w : World)
    (hx : RdB w A n xs) (hxc : n ≤ c) (hxz : n * 1 ≤ 140737488351232) (hy : RdB w A' n' ys) (hyc : n' ≤ c') (hyz : n' * 1 ≤ 140737488351232) (ht : Table w) :
    Calls Tryd.prog 9 #[.slice A n c, .slice A' n' c'] w fun e w' => e = .returned (.bool true) ∧ Below w.heap.size w w' := by
  have HX := Lib.hid hx
  have HY := Lib.hid hy
  have HT := Lib.hid ht
  have hn : n ≤ 140737488351232 := by omega
  have hn' : n' ≤ 140737488351232 := by omega
  clear hx hy ht hxz hyz
  go_enter Tryd.func9, Tryd.ntmps9
  go_wp2_with fail
  refine (wakes_any _ HT.out).mono ?_
  rintro e w1 ⟨rfl, hb⟩
  have HB1 := Lib.hid hb
  clear hb
  have L7 : Hid (By [7]) := Lib.hid (By_of _ (by decide))
  have L8 : Hid (By [8]) := Lib.hid (By_of _ (by decide))
  have hs1 := HB1.out.size
  go_wp2_with (first | (at_builtin; refine app (w0 := w) (base := w.heap.size) rfl (.tmp 12) (.tmp 13) rfl rfl rfl (OwB.lit0 w1 _ hs1) (HX.out.below (HB1.out.alloc hs1 _)) (HB1.out.alloc hs1 _) ?s2 ?l2 ?_; (case s2 => simp; omega); (case l2 => omega); intro A2 n2 c2 w2 ho hb; have hL1 := ho.len; rw [List.nil_append] at ho; rw [List.nil_append, HX.out.len] at hL1; subst hL1; have HO2 := Lib.hid ho; have HB2 := Lib.hid hb; have hs2 := hb.size; clear ho hb) | (at_builtin; refine app (w0 := w) (base := w.heap.size) rfl (.tmp 14) (.tmp 15) rfl rfl rfl (HO2.out.alloc _) (litB w2 (0, 0) [7] (Nat.le_of_ble_eq_true rfl) L7.out) (HB2.out.alloc hs2 _) ?s3 ?l3 ?_; (case s3 => simp; omega); (case l3 => simp; omega); intro A3 n3 c3 w3 ho hb; have hL3 := ho.len; rw [List.length_append, HX.out.len] at hL3; have hL3a : n3 ≤ n + 1 := Nat.le_of_eq hL3.symm; have hL3b : n + 1 ≤ n3 := Nat.le_of_eq hL3; clear hL3; have HO3 := Lib.hid ho; have HB3 := Lib.hid hb; have hs3 := hb.size; have R3 := Below.refl w3.heap.size w3; clear ho hb) | (at_builtin; refine app (w0 := w3) (base := w3.heap.size) rfl (.tmp 17) (.tmp 18) rfl rfl rfl (OwB.lit0 w3 _ (Nat.le_refl _)) (HY.out.below (HB3.out.alloc hs3 _)) (R3.alloc (Nat.le_refl _) _) ?s4 ?l4 ?_; (case s4 => simp); (case l4 => omega); intro A4 n4 c4 w4 ho hb; have hL1 := ho.len; rw [List.nil_append] at ho; rw [List.nil_append, HY.out.len] at hL1; subst hL1; have HO4 := Lib.hid ho; have HB4 := Lib.hid hb; have hs4 := hb.size; clear ho hb) | (at_builtin; refine app (w0 := w3) (base := w3.heap.size) rfl (.tmp 19) (.tmp 20) rfl rfl rfl (HO4.out.alloc _) (litB w4 (0, 0) [8] (Nat.le_of_ble_eq_true rfl) L8.out) (HB4.out.alloc hs4 _) ?s5 ?l5 ?_; (case s5 => simp; omega); (case l5 => simp; omega); intro A5 n5 c5 w5 ho hb; have hL5 := ho.len; rw [List.length_append, HY.out.len] at hL5; have hL5a : n5 ≤ n' + 1 := Nat.le_of_eq hL5.symm; have hL5b : n' + 1 ≤ n5 := Nat.le_of_eq hL5; clear hL5; have HO5 := Lib.hid ho; have HB5 := Lib.hid hb; have hs5 := hb.size; clear ho hb))
  have HX5 : Hid (OwB w5 w.heap.size A3 n3 c3 (xs ++ [7])) := Lib.hid (HO3.out.below HB5.out)
  have HBX : Hid (Below w.heap.size w w5) := Lib.hid (HB3.out.trans (HB5.out.mono hs3))
  obtain ⟨g3, rfl, hg3, hg3l⟩ := HX5.out.form (by omega)
  obtain ⟨g5, rfl, hg5, hg5l⟩ := HO5.out.form (by omega)
  have RX : Hid (RdB w5 (some ⟨g3, 0, none⟩) n xs) := Lib.hid (by have := HX5.out.rd.take n (by omega); rwa [List.take_left' HX.out.len] at this)
  have RY : Hid (RdB w5 (some ⟨g5, 0, none⟩) n' ys) := Lib.hid (by have := HO5.out.rd.take n' (by omega); rwa [List.take_left' HY.out.len] at this)
  have hc3 : n ≤ c3 := Nat.le_trans (by omega) HX5.out.cap
  have hc5 : n' ≤ c5 := Nat.le_trans (by omega) HO5.out.cap
  go_still_tail 8, (by kernel_rfl)
  change wpList _ _ _ _ _ w5.drew
  have D5 : Hid (Below w5.heap.size w5 w5.drew) := Lib.hid (Below.refl _ _).drew
  generalize w5.drew = w6 at D5
  have RX6 := RX.out.below D5.out
  have RY6 := RY.out.below D5.out
  have HBX6 := HBX.out.trans (D5.out.mono HBX.out.size)
  have RR := Lib.hid (rows2 RX6 hc3 RY6 hc5 23)
  have B7 := HBX6.alloc HBX6.size (.cells #[.slice (some ⟨g3, 0, none⟩) n c3, .slice (some ⟨g5, 0, none⟩) n' c5] 23)
  have HT7 := Lib.hid (HT.out.below B7)
  have HBX7 := Lib.hid B7
  clear RX6 RY6 HBX6 B7
  go_wp2_with fail
  refine (parts_any _ _ _ _ _ RR.out HT7.out).mono ?_
  rintro e w' ⟨rfl, rfl⟩
  go_wp2
  have RX8 : Hid (∀ q, RdB ((w6.alloc (.cells #[.slice (some ⟨g3, 0, none⟩) n c3, .slice (some ⟨g5, 0, none⟩) n' c5] 23)).drewN q) (some ⟨g3, 0, none⟩) n xs) := Lib.hid fun q => ((RX.out.below D5.out).below (below_alloc (Below.refl _ _) _)).drawn q
  have RY8 : Hid (∀ q, RdB ((w6.alloc (.cells #[.slice (some ⟨g3, 0, none⟩) n c3, .slice (some ⟨g5, 0, none⟩) n' c5] 23)).drewN q) (some ⟨g5, 0, none⟩) n' ys) := Lib.hid fun q => ((RY.out.below D5.out).below (below_alloc (Below.refl _ _) _)).drawn q
  have HT8 : Hid (∀ q, Table ((w6.alloc (.cells #[.slice (some ⟨g3, 0, none⟩) n c3, .slice (some ⟨g5, 0, none⟩) n' c5] 23)).drewN q)) := Lib.hid fun q => HT7.out.below (pw_below_drewN (Below.refl _ _) q)
  have U0 : Hid (U32 (add 0 xs)) := Lib.hid (U32_add _ _)
  go_quiet ((first | (go_at_call 13; exact quiet_left (sum_any _ _ _ _ _ (RX8.out _) (HT8.out _))) | (go_at_call 11; exact quiet_left (add_any _ _ _ _ _ _ U0.out (RY8.out _) (HT8.out _)))))
  have cx := ((HX5.out.below D5.out).alloc (.cells #[.slice (some ⟨g3, 0, none⟩) n c3, .slice (some ⟨g5, 0, none⟩) n' c5] 23)).at_ n (by omega)
  have cy := ((HO5.out.below D5.out).alloc (.cells #[.slice (some ⟨g3, 0, none⟩) n c3, .slice (some ⟨g5, 0, none⟩) n' c5] 23)).at_ n' (by omega)
  have hxn : (xs ++ [7]).getD n 0 = 7 := by simp [List.getD_eq_getElem?_getD, ← HX.out.len]
  have hyn : (ys ++ [8]).getD n' 0 = 8 := by simp [List.getD_eq_getElem?_getD, ← HY.out.len]
  rw [hxn] at cx
  rw [hyn] at cy
  obtain ⟨cx, _⟩ := cx
  obtain ⟨cy, _⟩ := cy
  clear hxn hyn
  have k1 := fun q => str (RX8.out 0) q c3
  have k2 := fun q => str (RY8.out 0) q c5
  have k3 := fun q => str ((HX.out.below HBX7.out)) q c
  have k4 := fun q => str ((HY.out.below HBX7.out)) q c'
  simp only [World.drewN_zero] at k1 k2
  have E1 : Hid (add 0 xs = add 0 xs) := Lib.hid rfl
  clear E1
  have HL : Hid (∀ q, OwB ((w6.alloc (.cells #[.slice (some ⟨g3, 0, none⟩) n c3, .slice (some ⟨g5, 0, none⟩) n' c5] 23)).drewN q) w.heap.size (some ⟨g3, 0, none⟩) n3 c3 (xs ++ [7])) := Lib.hid fun q => ((HX5.out.below D5.out).alloc _).drawn q
  have HLB : Hid (∀ q, Below w.heap.size w ((w6.alloc (.cells #[.slice (some ⟨g3, 0, none⟩) n c3, .slice (some ⟨g5, 0, none⟩) n' c5] 23)).drewN q)) := Lib.hid fun q => pw_below_drewN HBX7.out q
  have e1 : (parts 0 [xs, ys] == add (add 0 xs) ys) = true := beq_self_eq_true _
  have e2 : (parts 0 [xs, ys] == parts 0 [xs, ys]) = true := beq_self_eq_true _
  go_wp2_with fail
  go_quiet (fail)
  clear k1 k2 k3 k4 cx cy
  go_wp2
  go_loopw [9, 78] (fun _ i wr => ∃ (k : Nat) (zs : List Int), k ≤ n3 ∧ i = .int .i64 k ∧ Aside0 (OwB wr w.heap.size (some ⟨g3, 0, none⟩) n3 c3 zs) ∧ Aside0 (Below w.heap.size w wr)) (fun _ i _ => n3 - (intOf i).toNat)
  case atStart => exact ⟨0, _, by omega, rfl, ⟨HL.out _⟩, ⟨HLB.out _⟩⟩
  case round =>
    obtain ⟨k, zs, hk, rfl, HO7, HB7⟩ := hrel
    by_cases hlt : k < n3
    · obtain ⟨hcell, hfr⟩ := HO7.out.at_ k hlt
      generalize zs.getD k 0 = z at hcell
      have st := Aside0.mk (HO7.out.store k 3 ⟨by decide, by decide⟩)
      go_wp2
      go_roundw
      case rel => exact ⟨k + 1, _, by omega, by go_num, st, ⟨HB7.out.setCell hg3 _⟩⟩
      case measure => simp [intOf]; omega
    · have hX9 := HX.out.below HB7.out
      have hY9 := HY.out.below HB7.out
      have RR9 := Lib.hid (rows2 hX9 hxc hY9 hyc 23)
      have B9 := HB7.out.alloc HB7.out.size (.cells #[.slice A n c, .slice A' n' c'] 23)
      have HT9 := Lib.hid (HT.out.below B9)
      have HBX9 := Lib.hid B9
      clear hX9 hY9 B9
      go_wp2_with fail
      refine (parts_any _ _ _ _ _ RR9.out HT9.out).mono ?_
      rintro e w' ⟨rfl, rfl⟩
      go_wp2
      go_ret
      exact ⟨rfl, HBX9.out⟩
end Go.Proofs.YtjhmmnbjedkkdaaDoor.crcl
