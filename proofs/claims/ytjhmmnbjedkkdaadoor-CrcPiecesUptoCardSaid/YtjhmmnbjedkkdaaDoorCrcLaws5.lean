/- The walk of the law CrcPieces. -/
import Derived.Test.YtjhmmnbjedkkdaaDoorCrcWalk2
import Derived.Test.YtjhmmnbjedkkdaaDoorMem
import Derived.Outline
import Derived.WalkSpells
import Derived.WalkLawsBesides
set_option linter.unusedVariables false
set_option linter.unusedSimpArgs false
namespace Go.Proofs.YtjhmmnbjedkkdaaDoor.crcl
open Go.RowKit Go.Proofs.YtjhmmnbjedkkdaaDoorW.PrintWords Go.Proofs.YtjhmmnbjedkkdaaDoor.base Go.Proofs.YtjhmmnbjedkkdaaDoor.crcp Go.Proofs.YtjhmmnbjedkkdaaDoor.crcw Go.Proofs.YtjhmmnbjedkkdaaDoor.mem

theorem parts_flat (s : Int) (hs : U32 s) (xss : List (List Int)) : parts s xss = add s xss.flatten := by
  unfold parts
  induction xss generalizing s with
  | nil => exact (add_nil s hs).symm
  | cons x xss ih =>
    rw [List.foldl_cons, List.flatten_cons, ← add_append]
    exact ih _ (U32_add _ _)
theorem take_split (xs : List Int) (a b : Nat) (h : a ≤ b) : xs.take a ++ (xs.take b).drop a = xs.take b := by
  have := List.take_append_drop a (xs.take b)
  rwa [List.take_take, Nat.min_eq_left h] at this

set_option maxHeartbeats 1600000 in
theorem piecesLaw (A : Option Addr) (n c : Nat) (xs : List Int) (A' : Option Addr) (n' c' : Nat) (cs : List Int) (w : World)
    (hx : RdB w A n xs) (hxc : n ≤ c) (hxz : n + 1 ≤ 1048576) (hy : ReadsInt w .i64 A' n' cs) (hyw : ∀ x ∈ cs, (Lit.int .i64 x).wf = true) (hyc : n' ≤ c') (hyz : n' + 1 ≤ 1048576) (ht : Table w) :
    Calls Tryd.prog 8 #[.slice A n c, .slice A' n' c'] w fun e w' => e = .returned (.bool true) ∧ Below w.heap.size w w' := by
  have HX := Lib.hid hx
  have HY := Lib.hid hy
  have HT := Lib.hid ht
  have hn : n ≤ 140737488351232 := by omega
  clear hx hy ht hxz hyw
  go_enter Tryd.func8, Tryd.ntmps8
  go_wp2_with fail
  refine (wakes_any _ HT.out).mono ?_
  rintro e w1 ⟨rfl, hb⟩
  have HB1 := Lib.hid hb
  clear hb
  go_wp2_with fail
  go_loopw [5, 6, 7, 9, 14] (fun l p s _ i wr => ∃ (k q : Nat) (v : Int) (A1 : Option Addr) (n1 c1 : Nat) (cells : List Value) (xss : List (List Int)), k ≤ n' ∧ i = .int .i64 k ∧ q ≤ n ∧ p = .int .i64 q ∧ s = .int .u32 v ∧ 0 ≤ v ∧ v ≤ 4294967295 ∧ l = .slice A1 n1 c1 ∧ n1 ≤ k ∧
      Aside0 (v = add 0 (xs.take q)) ∧ Aside0 (xss.flatten = xs.take q) ∧ Aside0 (OwV wr w.heap.size A1 n1 c1 cells) ∧ Aside0 (RowsOf w cells xss) ∧ Aside0 (Below w.heap.size w wr)) (fun _ _ _ _ i _ => n' - (intOf i).toNat)
  case atStart => exact ⟨0, 0, 0, none, 0, 0, [], [], by omega, rfl, by omega, rfl, rfl, by omega, by omega, rfl, by omega, ⟨(add_nil 0 ⟨by omega, by omega⟩).symm⟩, ⟨rfl⟩, ⟨OwV.nil _ _⟩, ⟨RowsOf.nil _⟩, ⟨HB1.out⟩⟩
  case round =>
    obtain ⟨k, q, v, A1, n1, c1, cells, xss, hk, rfl, hq, rfl, rfl, hv0, hv1, rfl, hn1, HV, HF, HO, HR, HB⟩ := hrel
    by_cases hlt : k < n'
    · obtain ⟨ad, rfl, hall⟩ := (HY.out.below HB.out).2.2 (by omega)
      have hcell := hall k hlt
      clear hall
      generalize cs.getD k 0 = cut at hcell
      by_cases h1 : cut < (q : Int)
      · go_wp2
        go_roundw
        case rel => exact ⟨k + 1, q, v, A1, n1, c1, cells, xss, by omega, by go_num, hq, rfl, rfl, hv0, hv1, rfl, by omega, HV, HF, HO, HR, HB⟩
        case measure => simp [intOf]; omega
      · by_cases h2 : (n : Int) < cut
        · go_wp2
          go_roundw
          case rel => exact ⟨k + 1, q, v, A1, n1, c1, cells, xss, by omega, by go_num, hq, rfl, rfl, hv0, hv1, rfl, by omega, HV, HF, HO, HR, HB⟩
          case measure => simp [intOf]; omega
        · obtain ⟨u, rfl⟩ := Int.eq_ofNat_of_zero_le (show 0 ≤ cut by omega)
          have hqu : q ≤ u := by omega
          have hun : u ≤ n := by omega
          obtain ⟨B, m, d, hcut, hm1, hm2, hmd, hrd⟩ := cutLH A n c q u hqu hun hxc
          have HRd := Lib.hid (hrd w xs HX.out)
          have hs := HB.out.size
          clear hrd h1 h2
          go_wp2_with (first | (at_builtin; refine appV (w0 := w) (base := w.heap.size) rfl (.tmp 27) (.tmp 32) rfl (m := m) (c' := d) (A' := B) rfl rfl HO.out HB.out hs ?lenA ?_; (case lenA => omega); intro A2 n2 c2 w2 ho hb hg; have hL := ho.len; rw [List.length_append, HO.out.len] at hL; have hLa : n2 ≤ n1 + 1 := Nat.le_of_eq hL.symm; clear hL; have HO2 := Lib.hid ho; have HB2 := Lib.hid hb; have HT2 := Lib.hid (HT.out.below hb); have HRd2 := Lib.hid (HRd.out.below hb); clear ho hb hg) | (go_at_call 11; refine (add_any v _ _ _ _ _ ⟨hv0, hv1⟩ HRd2.out HT2.out).mono ?_; rintro e w' ⟨rfl, rfl⟩))
          go_roundw
          case rel => exact ⟨k + 1, u, _, A2, n2, c2, _, xss ++ [(xs.take u).drop q], by omega, by go_num, hun, rfl, rfl, (U32_add _ _).1, (U32_add _ _).2, rfl, by omega, ⟨by rw [HV.out, add_append, take_split xs q u hqu]⟩, ⟨by rw [List.flatten_append, HF.out, List.flatten_singleton, take_split xs q u hqu]⟩, ⟨HO2.out⟩, ⟨HR.out.snoc hmd HRd.out⟩, ⟨HB2.out⟩⟩
          case measure => simp [intOf]; omega
    · obtain rfl : k = n' := by omega
      obtain ⟨B, m, d, hcut, hm1, hm2, hmd, hrd⟩ := cutL A n c q hq hxc
      have HRd := Lib.hid (hrd w xs HX.out)
      have hs := HB.out.size
      have e0 : add v (xs.drop q) = add 0 xs := by rw [HV.out, add_append, List.take_append_drop]
      have e1 : (add v (xs.drop q) == add 0 xs) = true := by rw [e0]; exact beq_self_eq_true _
      have e2 : (parts 0 (xss ++ [xs.drop q]) == add 0 xs) = true := by rw [parts_flat 0 ⟨by omega, by omega⟩, List.flatten_append, HF.out, List.flatten_singleton, List.take_append_drop]; exact beq_self_eq_true _
      clear hrd e0
      go_wp2_with (first | (at_builtin; refine appV (w0 := w) (base := w.heap.size) rfl (.tmp 42) (.tmp 46) rfl (m := m) (c' := d) (A' := B) rfl rfl HO.out HB.out hs ?lenB ?_; (case lenB => omega); intro A2 n2 c2 w2 ho hb hg; have hL := ho.len; rw [List.length_append, HO.out.len] at hL; have hLa : n2 ≤ n1 + 1 := Nat.le_of_eq hL.symm; clear hL; have HO2 := Lib.hid ho; have HB2 := Lib.hid hb; have HT2 := Lib.hid (HT.out.below hb); have HRd2 := Lib.hid (HRd.out.below hb); have HX2 := Lib.hid (HX.out.below hb); have HP := Lib.hid (OwV.rd ho ((HR.out.snoc hmd HRd.out).below hb) (Nat.le_trans hLa (by omega))); clear ho hb hg) | (go_at_call 11; refine (add_any v _ _ _ _ _ ⟨hv0, hv1⟩ HRd2.out HT2.out).mono ?_; rintro e w' ⟨rfl, rfl⟩) | (go_at_call 13; refine (sum_any _ _ _ _ _ HX2.out HT2.out).mono ?_; rintro e w' ⟨rfl, rfl⟩) | (go_at_call 15; refine (parts_any _ _ _ _ _ HP.out HT2.out).mono ?_; rintro e w' ⟨rfl, rfl⟩))
      go_ret
      exact ⟨rfl, HB2.out⟩
end Go.Proofs.YtjhmmnbjedkkdaaDoor.crcl
