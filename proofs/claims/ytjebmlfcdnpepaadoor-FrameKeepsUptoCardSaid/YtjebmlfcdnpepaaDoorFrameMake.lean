/- What frame.Encode and the reference's Encode compute. -/
import Derived.Test.YtjebmlfcdnpepaaDoorFrameEnd
set_option linter.unusedVariables false
set_option linter.unusedSimpArgs false
namespace Go.Proofs.YtjebmlfcdnpepaaDoor.framem
open Go.RowKit Go.Proofs.YtjebmlfcdnpepaaDoorW.PrintWords Go.Proofs.YtjebmlfcdnpepaaDoor.base Go.Proofs.YtjebmlfcdnpepaaDoor.mem Go.Proofs.YtjebmlfcdnpepaaDoor.crcp Go.Proofs.YtjebmlfcdnpepaaDoor.crcw Go.Proofs.YtjebmlfcdnpepaaDoor.samew Go.Proofs.YtjebmlfcdnpepaaDoor.framep Go.Proofs.YtjebmlfcdnpepaaDoor.framew Go.Proofs.YtjebmlfcdnpepaaDoor.frameit

/-- a payload's frame -/
def fenc (xs : List Int) : List Int := le4 xs.length ++ le4 (parts 0 [le4 xs.length, xs]) ++ xs
theorem parts2 (a b : List Int) : parts 0 [a, b] = add 0 (a ++ b) := add_append 0 a b
theorem U32_len {n : Nat} (h : n ≤ 1048576) : U32 (n : Int) := ⟨by omega, by omega⟩
set_option maxHeartbeats 1000000 in
theorem four_any (w0 : World) (base : Nat) (A : Option Addr) (n c : Nat) (xs : List Int) (S : Int) (w : World) (ho : OwB w base A n c xs) (hbs : base ≤ w.heap.size) (hB : Below base w0 w) (hU : U32 S) (hl : n + 4 ≤ 140737488355328) :
    Calls Tryd.prog 18 #[.slice A n c, .int .u32 S] w fun e w' => ∃ A1 n1 c1, e = .returned (.slice A1 n1 c1) ∧ OwB w' base A1 n1 c1 (xs ++ le4 S) ∧ Below base w0 w' := by
  have HO := Lib.hid ho
  have HB := Lib.hid hB
  have hU0 := hU.1
  have hU1 := hU.2
  have HBy := Lib.hid (By_le4 hU)
  clear ho hB hU
  go_enter Tryd.func18, Tryd.ntmps18
  go_wp2_with (first | (at_builtin; refine app (w0 := w0) (base := base) rfl (.tmp 5) (.tmp 17) rfl rfl rfl (HO.out.alloc _) (litB w (0, 0) (le4 S) (Nat.le_of_ble_eq_true rfl) HBy.out) (HB.out.alloc hbs _) ?s5 ?l5 ?_; (case s5 => simp; omega); (case l5 => omega); intro A5 n5 c5 w5 ho hb; have HO5 := Lib.hid ho; have B5 := Lib.hid hb; clear ho hb))
  go_ret
  exact ⟨A5, n5, c5, rfl, HO5.out, B5.out⟩
set_option maxHeartbeats 1000000 in
theorem reffour_any (S : Int) (w : World) (hU : U32 S) :
    Calls Tryd.prog 20 #[.int .u32 S] w fun e w' => ∃ A1 c1, e = .returned (.slice A1 4 c1) ∧ 4 ≤ c1 ∧ RdB w' A1 4 (le4 S) ∧ Below w.heap.size w w' := by
  have hU0 := hU.1
  have hU1 := hU.2
  have HBy := Lib.hid (By_le4 hU)
  have HL := Lib.hid (litB w (0, 0) (le4 S) (Nat.le_of_ble_eq_true rfl) HBy.out)
  have B1 := Lib.hid (below_alloc (Below.refl w.heap.size w) (.cells (nums .u8 (le4 S)).toArray 5 (0, 0)))
  clear hU
  go_enter Tryd.func20, Tryd.ntmps20
  go_wp2
  go_ret
  exact ⟨_, _, rfl, Nat.le_refl _, HL.out, B1.out⟩
def RetE (w : World) (v : Bool) (E : List Int) (e : Ending) (w' : World) : Prop := ∃ A n c, e = .returned (.tuple #[.slice A n c, .int .i64 (if v then 0 else 3)]) ∧ OwB w' w.heap.size A n c (if v then E else []) ∧ Below w.heap.size w w'
set_option maxHeartbeats 1000000 in
theorem encode_any (A : Option Addr) (n c : Nat) (xs : List Int) (w : World) (hr : RdB w A n xs) (hc : n ≤ c) (ht : Table w) :
    Calls Tryd.prog 10 #[.slice A n c] w (RetE w (decide (n ≤ 1048576)) (fenc xs)) := by
  have HR := Lib.hid hr
  have HT := Lib.hid ht
  have hlen := hr.len
  have hmax := hr.max
  clear hr ht
  by_cases hb : n ≤ 1048576
  · have hd : decide (n ≤ 1048576) = true := decide_eq_true hb
    rw [hd]
    have hU := U32_len hb
    have HF : Hid (fenc xs = le4 n ++ le4 (parts 0 [le4 n, xs]) ++ xs) := Lib.hid (by unfold fenc; rw [hlen])
    have HP := Lib.hid (U32_parts 0 ⟨by decide, by decide⟩ [le4 n, xs])
    have H4 := Lib.hid (four_any w w.heap.size none 0 0 [] n w (OwB.nil _ _) (Nat.le_refl _) (Below.refl _ _) hU (by omega))
    clear hU hd hlen
    go_enter Tryd.func10, Tryd.ntmps10
    go_wp2_with fail
    refine H4.out.mono ?_
    rintro e w2 ⟨A2, n2, c2, rfl, ho, hbb⟩
    rw [List.nil_append] at ho
    obtain rfl : n2 = 4 := ho.len.symm
    have HO2 := Lib.hid ho
    have HB2 := Lib.hid hbb
    have hs2 := hbb.size
    clear ho hbb
    have RR := Lib.hid (rows2 HO2.out.rd HO2.out.cap (HR.out.below HB2.out) hc 22)
    have HO3 := Lib.hid (HO2.out.alloc (.cells #[.slice A2 4 c2, .slice A n c] 22))
    have HB3 := Lib.hid (HB2.out.alloc hs2 (.cells #[.slice A2 4 c2, .slice A n c] 22))
    have HT3 := Lib.hid (HT.out.below HB3.out)
    have hs3 := HB3.out.size
    have HPC := Lib.hid (parts_any _ _ 2 _ _ RR.out HT3.out)
    generalize parts 0 [le4 n, xs] = S at HF HP HPC
    have HRR := Lib.hid (fun W (h : Below w.heap.size w W) => HR.out.below h)
    go_wp2_with (first | (go_at_call 19; refine HPC.out.mono ?_; rintro e w5 ⟨rfl, rfl⟩) | (go_at_call 18; refine (four_any w w.heap.size _ _ _ (le4 n) _ _ HO3.out hs3 HB3.out HP.out (by omega)).mono ?_; rintro e w6 ⟨A6, n6, c6, rfl, ho, hbb⟩; have hl6 : 8 = n6 := ho.len; subst hl6; have HO6 := Lib.hid ho; have HB6 := Lib.hid hbb; have hs6 := hbb.size; clear ho hbb) | (at_builtin; refine app (w0 := w) (base := w.heap.size) rfl (.tmp 18) (.tmp 19) rfl rfl rfl (HO6.out) (HRR.out _ HB6.out) (HB6.out) ?s7 ?l7 ?_; (case s7 => exact hs6); (case l7 => omega); intro A7 n7 c7 w7 ho hb; have HO7 := Lib.hid ho; have B7 := Lib.hid hb; clear ho hb))
    refine bodyPost_ret (results_tmp2 rfl _ _ _) rfl ?_
    exact ⟨A7, n7, c7, rfl, by rw [if_pos rfl, HF.out]; exact HO7.out, B7.out⟩
  · have hd : decide (n ≤ 1048576) = false := decide_eq_false hb
    rw [hd]
    go_enter Tryd.func10, Tryd.ntmps10
    go_wp2
    refine bodyPost_ret (results_tmp2 rfl _ _ _) rfl ?_
    exact ⟨none, 0, 0, rfl, OwB.nil _ _, Below.refl _ _⟩
set_option maxHeartbeats 1000000 in
theorem refencode_any (A : Option Addr) (n c : Nat) (xs : List Int) (w : World) (hr : RdB w A n xs) (hc : n ≤ c) :
    Calls Tryd.prog 11 #[.slice A n c] w (RetE w (decide (n ≤ 1048576)) (fenc xs)) := by
  have HR := Lib.hid hr
  have hlen := hr.len
  have hmax := hr.max
  clear hr
  by_cases hb : n ≤ 1048576
  · have hd : decide (n ≤ 1048576) = true := decide_eq_true hb
    rw [hd]
    have hU := U32_len hb
    have HF : Hid (fenc xs = ([] ++ le4 n) ++ le4 (add 0 (([] ++ le4 n) ++ xs)) ++ xs) := Lib.hid (by rw [List.nil_append, ← parts2]; unfold fenc; rw [hlen])
    have HP := Lib.hid (U32_add 0 (([] ++ le4 n) ++ xs))
    have HRR := Lib.hid (fun W (h : Below w.heap.size w W) => HR.out.below h)
    have H4 := Lib.hid (reffour_any n w hU)
    clear hU hd hlen
    go_enter Tryd.func11, Tryd.ntmps11
    go_wp2_with fail
    refine H4.out.mono ?_
    rintro e w2 ⟨A2, c2, rfl, h4c, hr2, hb2⟩
    have HR2 := Lib.hid hr2
    have HB2 := Lib.hid hb2
    have hs2 := hb2.size
    clear hr2 hb2
    have HBX := Lib.hid (Below.refl w2.heap.size w2)
    have HRX := Lib.hid (fun W (h : Below w2.heap.size w2 W) => HRR.out _ (HB2.out.trans (h.mono hs2)))
    go_wp2_with (first | (at_builtin; refine app (w0 := w2) (base := w2.heap.size) rfl (.tmp 13) (.tmp 14) rfl rfl rfl (OwB.lit0 _ _ (Nat.le_refl _)) (HR2.out.below (below_alloc (Below.refl _ _) _)) (HBX.out.alloc (Nat.le_refl _) _) ?s5 ?l5 ?_; (case s5 => simp); (case l5 => omega); intro A5 n5 c5 w5 ho hb; have HO5 := Lib.hid ho; have B5 := Lib.hid hb; have hl5 : 4 = n5 := ho.len; subst hl5; have hs5 := hb.size; clear ho hb) | (at_builtin; refine app (w0 := w2) (base := w2.heap.size) rfl (.tmp 15) (.tmp 16) rfl rfl rfl (HO5.out) (HRX.out _ B5.out) (B5.out) ?s6 ?l6 ?_; (case s6 => exact hs5); (case l6 => omega); intro A6 n6 c6 w6 ho hb; have HO6 := Lib.hid ho; have B6 := Lib.hid hb; have hs6 := hb.size; clear ho hb) | (go_at_call 21; refine (refsum_any _ _ _ _ _ HO6.out.rd).mono ?_; rintro e w7 ⟨rfl, rfl⟩; rw [add_ref]; generalize add 0 (([] ++ le4 n) ++ xs) = S at HF HP ⊢) | (go_at_call 20; refine (reffour_any S _ HP.out).mono ?_; rintro e w8 ⟨A8, c8, rfl, h4c8, hr8, hb8⟩; have HR8 := Lib.hid hr8; have BX8 := Lib.hid (B6.out.trans (hb8.mono hs6)); have HR28 := Lib.hid (HR2.out.below BX8.out); have B8 := Lib.hid (HB2.out.trans (BX8.out.mono hs2)); have hs8 := B8.out.size; have HBY := Lib.hid (Below.refl w8.heap.size w8); clear hr8 hb8) | (at_builtin; refine app (w0 := w8) (base := w8.heap.size) rfl (.tmp 20) (.tmp 21) rfl rfl rfl (OwB.lit0 _ _ (Nat.le_refl _)) (HR28.out.below (below_alloc (Below.refl _ _) _)) (HBY.out.alloc (Nat.le_refl _) _) ?sa ?la ?_; (case sa => simp); (case la => omega); intro Aa na ca wa ho hb; have HOa := Lib.hid ho; have Ba := Lib.hid hb; have hla : 4 = na := ho.len; subst hla; have hsa := hb.size; clear ho hb) | (at_builtin; refine app (w0 := w8) (base := w8.heap.size) rfl (.tmp 22) (.tmp 23) rfl rfl rfl (HOa.out) (HR8.out.below Ba.out) (Ba.out) ?sb ?lb ?_; (case sb => exact hsa); (case lb => omega); intro Ab nb cb wb ho hb; have HOb := Lib.hid ho; have Bb := Lib.hid hb; have hlb : 8 = nb := ho.len; subst hlb; have hsb := hb.size; clear ho hb) | (at_builtin; refine app (w0 := w8) (base := w8.heap.size) rfl (.tmp 24) (.tmp 25) rfl rfl rfl (HOb.out) (HRR.out _ (B8.out.trans (Bb.out.mono hs8))) (Bb.out) ?sc ?lc ?_; (case sc => exact hsb); (case lc => omega); intro Ac nc cc wc ho hb; have HOc := Lib.hid ho; have Bc := Lib.hid hb; clear ho hb))
    refine bodyPost_ret (results_tmp2 rfl _ _ _) rfl ?_
    exact ⟨Ac, nc, cc, rfl, by rw [if_pos rfl, HF.out]; exact HOc.out.less hs8, B8.out.trans (Bc.out.mono hs8)⟩
  · have hd : decide (n ≤ 1048576) = false := decide_eq_false hb
    rw [hd]
    go_enter Tryd.func11, Tryd.ntmps11
    go_wp2
    refine bodyPost_ret (results_tmp2 rfl _ _ _) rfl ?_
    exact ⟨none, 0, 0, rfl, OwB.nil _ _, Below.refl _ _⟩
end Go.Proofs.YtjebmlfcdnpepaaDoor.framem
