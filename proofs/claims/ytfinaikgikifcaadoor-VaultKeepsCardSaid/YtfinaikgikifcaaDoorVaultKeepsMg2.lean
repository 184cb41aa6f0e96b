/- What the disk's Off computes; and what is proved besides: see the words ahead of each part. -/
import Derived.StillTailTactics
import Derived.Test.YtfinaikgikifcaaDoorVaultKeepsMg1
set_option linter.unusedVariables false
set_option linter.unusedSimpArgs false
/- What the disk's Off computes. -/
namespace Go.Proofs.YtfinaikgikifcaaDoor.diskw
open Go.RowKit Go.Proofs.YtfinaikgikifcaaDoorW.PrintWords Go.Proofs.YtfinaikgikifcaaDoor.base Go.Proofs.YtfinaikgikifcaaDoor.mem Go.Proofs.YtfinaikgikifcaaDoor.keep Go.Proofs.YtfinaikgikifcaaDoor.diskp Go.Proofs.YtfinaikgikifcaaDoor.diskr Go.Proofs.YtfinaikgikifcaaDoor.ordt

def Small (b : Nat → List Int) : Prop := ∀ i, i < 4 → (b i).length ≤ 70368744177664
def offN (k : Int) (b : Nat → List Int) : Nat → Nat → List Int
  | 0 => b
  | 1 => offF k b 0
  | _ => offF k (offF k b 0) 1
/-- the two slots of a file, the waiting bytes gone -/
theorem two_slots {w w1 : World} {base p : Nat} {cs : Nat → Sl} {d : D} (h : DAt w base p cs d) {f : Nat} (hf : f < 2) {A : Option Addr} {n c : Nat} {ys : List Int} (hg : w.grownBy w1 (cs (2 * f)).own) (hx : OwB w1 base A n c ys)
    (ho : ∀ g, (Value.slice A n c).ownBlock = some g → (cs (2 * f)).own = some g ∨ w.heap.size ≤ g) :
    DAt ((w1.setCell ⟨p, 2 * f, none⟩ (.slice A n c)).setCell ⟨p, 2 * f + 1, none⟩ (.slice none 0 0)) base p (upd (upd cs (2 * f) ⟨A, n, c⟩) (2 * f + 1) nilS) (putB (putB d (2 * f) ys) (2 * f + 1) []) ∧
      DStep w base p cs ((w1.setCell ⟨p, 2 * f, none⟩ (.slice A n c)).setCell ⟨p, 2 * f + 1, none⟩ (.slice none 0 0)) (upd (upd cs (2 * f) ⟨A, n, c⟩) (2 * f + 1) nilS) := by
  obtain ⟨h1, s1⟩ := h.slot (i := 2 * f) (x := ⟨A, n, c⟩) (by omega) hg hx ho
  obtain ⟨h2, s2⟩ := h1.slot (i := 2 * f + 1) (x := nilS) (ys := []) (by omega) (grownBy_self _ _) (OwB.nil _ _) (fun g e => by cases e)
  exact ⟨h2, s1.trans s2⟩
theorem stay_min (k : Int) (xs : List Int) : (if (xs.length : Int) < (if k < 0 then 0 else k) then (xs.length : Int) else (if k < 0 then 0 else k)) = (stay k xs : Int) := by
  unfold stay
  split <;> split at * <;> omega
theorem stay_le (k : Int) (xs : List Int) : stay k xs ≤ xs.length := by unfold stay; omega
set_option maxHeartbeats 16000000 in
theorem off_any {w : World} {base p : Nat} {cs : Nat → Sl} {d : D} (h : DAt w base p cs d) (hs : Small d.b) (k : Int) (hk : -9223372036854775808 ≤ k ∧ k ≤ 9223372036854775807) :
    Calls Tryd.prog 27 #[.pointer (some ⟨p, 0, none⟩), .int .i64 k] w (RetD w base p cs (.tuple #[]) (offD d k)) := by
  have e4 := h.cells.2.2.2.2.1
  have H := Lib.hid h
  have HS := Lib.hid hs
  have HOD : Hid (offD d k = if d.off then d else ⟨offF k (offF k d.b 0) 1, true, d.n, 0, d.k⟩) := Lib.hid rfl
  clear h hs hk
  cases ho : d.off
  · rw [ho] at e4 HOD
    have HOFF := Lib.hid ho
    clear ho
    go_enter Tryd.func27, Tryd.ntmps27
    go_wp2
    clear e4
    go_loopw [14] (fun li wr => ∃ (i : Nat) (cr : Nat → Sl), i ≤ 2 ∧ li = .int .i64 i ∧ Aside0 (DAt wr base p cr ⟨offN k d.b i, d.off, d.n, d.a, d.k⟩) ∧ Aside0 (DStep w base p cs wr cr)) (fun li _ => 2 - (intOf li).toNat)
    case atStart => exact ⟨0, cs, by omega, rfl, ⟨H.out⟩, ⟨DStep.refl _ _ _ _⟩⟩
    case round =>
      obtain ⟨i, cr, hi, rfl, HD, HST⟩ := hrel
      by_cases hlt : i < 2
      · obtain ⟨bb, hbb⟩ : ∃ bb, offN k d.b i = bb := ⟨_, rfl⟩
        have HBB := Lib.hid hbb
        clear hbb
        rw [HBB.out] at HD
        have HN : Hid (offN k d.b (i + 1) = upd (upd bb (2 * i) (bb (2 * i) ++ (bb (2 * i + 1)).take (stay k (bb (2 * i + 1))))) (2 * i + 1) []) := Lib.hid (by
          rw [← HBB.out]
          match i, hlt with
          | 0, _ => rfl
          | 1, _ => rfl)
        have e0 : wr.cell? ⟨p, i * 2, none⟩ = some (.slice (cr (2 * i)).A (cr (2 * i)).n (cr (2 * i)).c) := by
          rw [Nat.mul_comm i 2]
          refine HD.out.cell (2 * i) _ ?_
          match i, hlt with
          | 0, _ => rfl
          | 1, _ => rfl
        have e1 : wr.cell? ⟨p, i * 2 + 1, none⟩ = some (.slice (cr (2 * i + 1)).A (cr (2 * i + 1)).n (cr (2 * i + 1)).c) := by
          rw [Nat.mul_comm i 2]
          refine HD.out.cell (2 * i + 1) _ ?_
          match i, hlt with
          | 0, _ => rfl
          | 1, _ => rfl
        have f0 := HD.out.free (i * 2)
        have f1 := HD.out.free (i * 2 + 1)
        have RS : Hid (OwB wr base (cr (2 * i)).A (cr (2 * i)).n (cr (2 * i)).c (bb (2 * i))) := Lib.hid (HD.out.row (2 * i) (by omega))
        have RW : Hid (OwB wr base (cr (2 * i + 1)).A (cr (2 * i + 1)).n (cr (2 * i + 1)).c (bb (2 * i + 1))) := Lib.hid (HD.out.row (2 * i + 1) (by omega))
        have hbs := HD.out.base_le
        have hnp : (cr (2 * i)).own ≠ some p := HD.out.np (2 * i) (by omega)
        have hpl := HD.out.plt
        have HT := Lib.hid (fun A n c ys w1 hg hx ho => two_slots HD.out (f := i) hlt (A := A) (n := n) (c := c) (ys := ys) (w1 := w1) hg hx ho)
        have hl : (bb (2 * i)).length ≤ 70368744177664 ∧ (bb (2 * i + 1)).length ≤ 70368744177664 := by
          rw [← HBB.out]
          match i, hlt with
          | 0, _ => exact ⟨HS.out 0 (by omega), HS.out 1 (by omega)⟩
          | 1, _ => exact ⟨HS.out 2 (by omega), HS.out 3 (by omega)⟩
        have l0 : (cr (2 * i)).n ≤ 70368744177664 := by rw [← RS.out.len]; exact hl.1
        have l1 : (cr (2 * i + 1)).n ≤ 70368744177664 := by rw [← RW.out.len]; exact hl.2
        have hcap := RW.out.cap
        have mx := stay_min k (bb (2 * i + 1))
        have hml := stay_le k (bb (2 * i + 1))
        rw [RW.out.len] at mx hml
        have HNP := Lib.hid hnp
        have HOWN : Hid ((cr (2 * i)).own = (Value.slice (cr (2 * i)).A (cr (2 * i)).n (cr (2 * i)).c).ownBlock) := Lib.hid rfl
        generalize stay k (bb (2 * i + 1)) = K at mx hml HN
        have HR := Lib.hid (RW.out.rd.take K hml)
        clear hnp hl
        generalize (cr (2 * i)).A = sA at *
        generalize (cr (2 * i)).n = sn at *
        generalize (cr (2 * i)).c = sc at *
        generalize (cr (2 * i + 1)).A = wA at *
        generalize (cr (2 * i + 1)).n = wn at *
        generalize (cr (2 * i + 1)).c = wc at *
        have hKc : (K : Int) ≤ (wc : Int) := by omega
        have hK0 : (0 : Int) ≤ (K : Int) := by omega
        have hii : (i : Int) < 2 := by omega
        clear hml
        go_wp2_with fail
        refine begin_ (fun W : World => W.cell? ⟨p, i * 2, none⟩ = some (.slice sA sn sc) ∧ W.cell? ⟨p, i * 2 + 1, none⟩ = some (.slice wA wn wc)) [19, 22, 25] (by kernel_rfl) ?_
        have hSw : (fun W : World => W.cell? ⟨p, i * 2, none⟩ = some (.slice sA sn sc) ∧ W.cell? ⟨p, i * 2 + 1, none⟩ = some (.slice wA wn wc)) wr.drew := ⟨e0, e1⟩
        simp only [List.size_toArray, List.length_cons, List.length_nil, Nat.reduceAdd, Array.replicate_succ, Array.replicate_zero, List.push_toArray, List.append_toArray, List.nil_append, List.cons_append]
        refine move_a (i := 0) (v := ?_) rfl (by kernel_rfl) (by kernel_rfl) (by kernel_rfl) (fun _ _ _ h => h) (by rfl) ?_ ?_
        rotate_left
        · (intro w; go_simp; try with_reducible rfl)
        try simp only [Act.put, List.setIfInBounds_toArray, List.set_cons_zero, List.set_cons_succ]
        refine move_a (i := 1) (v := ?_) rfl (by kernel_rfl) (by kernel_rfl) (by kernel_rfl) (fun _ _ _ h => h) (by rfl) ?_ ?_
        rotate_left
        · (intro w; go_simp; try with_reducible rfl)
        try simp only [Act.put, List.setIfInBounds_toArray, List.set_cons_zero, List.set_cons_succ]
        refine move_a (i := 2) (v := ?_) rfl (by kernel_rfl) (by kernel_rfl) (by kernel_rfl) (fun _ _ _ h => h) (by rfl) ?_ ?_
        rotate_left
        · (intro w; go_simp; try with_reducible rfl)
        try simp only [Act.put, List.setIfInBounds_toArray, List.set_cons_zero, List.set_cons_succ]
        refine move_a (i := 3) (v := ?_) rfl (by kernel_rfl) (by kernel_rfl) (by kernel_rfl) (fun _ _ _ h => h) (by rfl) ?_ ?_
        rotate_left
        · (intro w; go_simp; try with_reducible rfl)
        try simp only [Act.put, List.setIfInBounds_toArray, List.set_cons_zero, List.set_cons_succ]
        refine move_a (i := 4) (v := ?_) rfl (by kernel_rfl) (by kernel_rfl) (by kernel_rfl) (fun _ _ _ h => h) (by rfl) ?_ ?_
        rotate_left
        · (intro w; go_simp; try with_reducible rfl)
        try simp only [Act.put, List.setIfInBounds_toArray, List.set_cons_zero, List.set_cons_succ]
        refine move_b [19, 22, 25] [19, 22, 25] (i := 5) (v := ?_) rfl (by kernel_rfl) (by kernel_rfl) (by kernel_rfl) (fun _ _ _ h => h) (by kernel_rfl) (by kernel_rfl) (by kernel_rfl) (by rfl) ?_ hSw ?_
        rotate_left
        · (intro w hSw; (try dsimp only at hSw); go_simp; try with_reducible rfl)
        try simp only [Act.put, List.setIfInBounds_toArray, List.set_cons_zero, List.set_cons_succ]
        refine move_a (i := 6) (v := ?_) rfl (by kernel_rfl) (by kernel_rfl) (by kernel_rfl) (fun _ _ _ h => h) (by rfl) ?_ ?_
        rotate_left
        · (intro w; go_simp; try with_reducible rfl)
        try simp only [Act.put, List.setIfInBounds_toArray, List.set_cons_zero, List.set_cons_succ]
        refine move_a (i := 7) (v := ?_) rfl (by kernel_rfl) (by kernel_rfl) (by kernel_rfl) (fun _ _ _ h => h) (by rfl) ?_ ?_
        rotate_left
        · (intro w; go_simp; try with_reducible rfl)
        try simp only [Act.put, List.setIfInBounds_toArray, List.set_cons_zero, List.set_cons_succ]
        refine move_a (i := 8) (v := ?_) rfl (by kernel_rfl) (by kernel_rfl) (by kernel_rfl) (fun _ _ _ h => h) (by rfl) ?_ ?_
        rotate_left
        · (intro w; go_simp; try with_reducible rfl)
        try simp only [Act.put, List.setIfInBounds_toArray, List.set_cons_zero, List.set_cons_succ]
        refine move_b [18, 19, 22, 25] [19, 22, 25] (i := 9) (v := ?_) rfl (by kernel_rfl) (by kernel_rfl) (by kernel_rfl) (fun _ _ _ h => h) (by kernel_rfl) (by kernel_rfl) (by kernel_rfl) (by rfl) ?_ hSw ?_
        rotate_left
        · (intro w hSw; (try dsimp only at hSw); go_simp; try with_reducible rfl)
        try simp only [Act.put, List.setIfInBounds_toArray, List.set_cons_zero, List.set_cons_succ]
        refine move_a (i := 10) (v := ?_) rfl (by kernel_rfl) (by kernel_rfl) (by kernel_rfl) (fun _ _ _ h => h) (by rfl) ?_ ?_
        rotate_left
        · (intro w; go_simp; try with_reducible rfl)
        try simp only [Act.put, List.setIfInBounds_toArray, List.set_cons_zero, List.set_cons_succ]
        refine move_a (i := 11) (v := ?_) rfl (by kernel_rfl) (by kernel_rfl) (by kernel_rfl) (fun _ _ _ h => h) (by rfl) ?_ ?_
        rotate_left
        · (intro w; go_simp; try with_reducible rfl)
        try simp only [Act.put, List.setIfInBounds_toArray, List.set_cons_zero, List.set_cons_succ]
        refine move_a (i := 12) (v := ?_) rfl (by kernel_rfl) (by kernel_rfl) (by kernel_rfl) (fun _ _ _ h => h) (by rfl) ?_ ?_
        rotate_left
        · (intro w; go_simp; try with_reducible rfl)
        try simp only [Act.put, List.setIfInBounds_toArray, List.set_cons_zero, List.set_cons_succ]
        refine move_a (i := 13) (v := ?_) rfl (by kernel_rfl) (by kernel_rfl) (by kernel_rfl) (fun _ _ _ h => h) (by rfl) ?_ ?_
        rotate_left
        · (intro w; go_simp; try with_reducible rfl)
        try simp only [Act.put, List.setIfInBounds_toArray, List.set_cons_zero, List.set_cons_succ]
        refine move_a (i := 14) (v := ?_) rfl (by kernel_rfl) (by kernel_rfl) (by kernel_rfl) (fun _ _ _ h => h) (by rfl) ?_ ?_
        rotate_left
        · (intro w; go_simp; try with_reducible rfl)
        try simp only [Act.put, List.setIfInBounds_toArray, List.set_cons_zero, List.set_cons_succ]
        refine move_b [16, 17, 18, 19, 22, 25] [19, 22, 25] (i := 15) (v := ?_) rfl (by kernel_rfl) (by kernel_rfl) (by kernel_rfl) (fun _ _ _ h => h) (by kernel_rfl) (by kernel_rfl) (by kernel_rfl) (by rfl) ?_ hSw ?_
        rotate_left
        · (intro w hSw; (try dsimp only at hSw); go_simp; try with_reducible rfl)
        try simp only [Act.put, List.setIfInBounds_toArray, List.set_cons_zero, List.set_cons_succ]
        refine move_a (i := 16) (v := ?_) rfl (by kernel_rfl) (by kernel_rfl) (by kernel_rfl) (fun _ _ _ h => h) (by rfl) ?_ ?_
        rotate_left
        · (intro w; go_simp; try with_reducible rfl)
        try simp only [Act.put, List.setIfInBounds_toArray, List.set_cons_zero, List.set_cons_succ]
        refine move_a (i := 17) (v := ?_) rfl (by kernel_rfl) (by kernel_rfl) (by kernel_rfl) (fun _ _ _ h => h) (by rfl) ?_ ?_
        rotate_left
        · (intro w; go_simp; try with_reducible rfl)
        try simp only [Act.put, List.setIfInBounds_toArray, List.set_cons_zero, List.set_cons_succ]
        refine move_a (i := 18) (v := ?_) rfl (by kernel_rfl) (by kernel_rfl) (by kernel_rfl) (fun _ _ _ h => h) (by rfl) ?_ ?_
        rotate_left
        · (intro w; go_simp; try with_reducible rfl)
        try simp only [Act.put, List.setIfInBounds_toArray, List.set_cons_zero, List.set_cons_succ]
        refine move_c (i := 19) (by kernel_rfl) rfl (by rfl) (fun K hK => ?_)
        (refine stepAppH rfl (.tmp 27) (.tmp 40) rfl rfl rfl (RS.out.below (Below.refl _ _).drew) (HR.out.below (Below.refl _ _).drew) hbs (by omega) ?_; intro A1 n1 c1 w1 ho hg hob; have HO := Lib.hid ho; have HG := Lib.hid hg; have HOB := Lib.hid hob; have hpb : w1.heap[p]? = wr.heap[p]? := hg.block p hpl (fun e => HNP.out (HOWN.out.trans e.symm)); have y0 : w1.cell? ⟨p, i * 2, none⟩ = some (.slice sA sn sc) := (World.cell?_of_block hpb).trans e0; have y1 : w1.cell? ⟨p, i * 2 + 1, none⟩ = some (.slice wA wn wc) := (World.cell?_of_block hpb).trans e1; have z0 : w1.frozen? ⟨p, i * 2, none⟩ = false := (World.frozen?_of_block hpb).trans f0; have z1 : w1.frozen? ⟨p, i * 2 + 1, none⟩ = false := (World.frozen?_of_block hpb).trans f1; clear ho hg hob hpb)
        refine hK _ _ ?_
        clear hK K
        try simp only [Act.put, List.setIfInBounds_toArray, List.set_cons_zero, List.set_cons_succ]
        refine move_a (i := 20) (v := ?_) rfl (by kernel_rfl) (by kernel_rfl) (by kernel_rfl) (fun _ _ _ h => h) (by rfl) ?_ ?_
        rotate_left
        · (intro w; go_simp; try with_reducible rfl)
        try simp only [Act.put, List.setIfInBounds_toArray, List.set_cons_zero, List.set_cons_succ]
        refine move_a (i := 21) (v := ?_) rfl (by kernel_rfl) (by kernel_rfl) (by kernel_rfl) (fun _ _ _ h => h) (by rfl) ?_ ?_
        rotate_left
        · (intro w; go_simp; try with_reducible rfl)
        try simp only [Act.put, List.setIfInBounds_toArray, List.set_cons_zero, List.set_cons_succ]
        refine move_c (i := 22) (by kernel_rfl) rfl (by rfl) (fun K hK => ?_)
        go_simp
        refine hK _ _ ?_
        clear hK K
        try simp only [Act.put, List.setIfInBounds_toArray, List.set_cons_zero, List.set_cons_succ]
        refine move_a (i := 23) (v := ?_) rfl (by kernel_rfl) (by kernel_rfl) (by kernel_rfl) (fun _ _ _ h => h) (by rfl) ?_ ?_
        rotate_left
        · (intro w; go_simp; try with_reducible rfl)
        try simp only [Act.put, List.setIfInBounds_toArray, List.set_cons_zero, List.set_cons_succ]
        refine move_a (i := 24) (v := ?_) rfl (by kernel_rfl) (by kernel_rfl) (by kernel_rfl) (fun _ _ _ h => h) (by rfl) ?_ ?_
        rotate_left
        · (intro w; go_simp; try with_reducible rfl)
        try simp only [Act.put, List.setIfInBounds_toArray, List.set_cons_zero, List.set_cons_succ]
        refine move_c (i := 25) (by kernel_rfl) rfl (by rfl) (fun K hK => ?_)
        go_simp
        refine hK _ _ ?_
        clear hK K
        try simp only [Act.put, List.setIfInBounds_toArray, List.set_cons_zero, List.set_cons_succ]
        refine move_d (by kernel_rfl) ?_
        have HF := Lib.hid (HT.out A1 n1 c1 _ w1 (by rw [HOWN.out]; exact grownBy_undrew HG.out) HO.out (fun g e => by rw [HOWN.out]; exact HOB.out g e))
        rw [Nat.mul_comm i 2]
        go_wp2
        go_roundw
        case rel => exact ⟨i + 1, _, by omega, by go_num, ⟨by have := HF.out.1; unfold putB at this; rw [HN.out]; exact this⟩, ⟨HST.out.trans HF.out.2⟩⟩
        case measure => simp [intOf]; omega
      · obtain rfl : i = 2 := by omega
        obtain ⟨_, _, _, _, e4, _, e6, _⟩ := HD.out.cells
        obtain ⟨_, _, _, _, f4, _, f6, _⟩ := HD.out.frees
        have h4 := HD.out.scal 4 (.bool true) (d' := ⟨offN k d.b 2, true, d.n, d.a, d.k⟩) rfl rfl
        have S4 := HST.out.trans (DStep.store HD.out 4 (.bool true))
        have H6 := Lib.hid (h4.scal 6 (.int .i64 0) (d' := ⟨offN k d.b 2, true, d.n, 0, d.k⟩) rfl rfl)
        have S6 := Lib.hid (S4.trans (DStep.store h4 6 (.int .i64 0)))
        clear h4 S4
        go_wp2
        refine bodyPost_end (results_none rfl _ _ _) rfl ?_
        exact ⟨rfl, cr, by rw [HOD.out]; exact H6.out, S6.out⟩
  · rw [ho] at e4 HOD
    have HOD := Lib.hid (HOD.out.trans (if_pos rfl))
    clear ho
    go_enter Tryd.func27, Tryd.ntmps27
    go_wp2
    refine bodyPost_ret (results_none rfl _ _ _) rfl ?_
    exact ⟨rfl, cs, by rw [HOD.out]; exact H.out, DStep.refl _ _ _ _⟩
end Go.Proofs.YtfinaikgikifcaaDoor.diskw
/- What the disk's Append and Sync compute. -/
namespace Go.Proofs.YtfinaikgikifcaaDoor.diskw
open Go.RowKit Go.Proofs.YtfinaikgikifcaaDoorW.PrintWords Go.Proofs.YtfinaikgikifcaaDoor.base Go.Proofs.YtfinaikgikifcaaDoor.mem Go.Proofs.YtfinaikgikifcaaDoor.keep Go.Proofs.YtfinaikgikifcaaDoor.diskp Go.Proofs.YtfinaikgikifcaaDoor.diskr Go.Proofs.YtfinaikgikifcaaDoor.ordt

/-- what bounds a disk's numbers -/
structure Fit (d : D) : Prop where
  b : Small d.b
  n : 0 ≤ d.n ∧ d.n ≤ 4611686018427387904
  a : 0 ≤ d.a ∧ d.a ≤ 9223372036854775807
  k : -9223372036854775808 ≤ d.k ∧ d.k ≤ 9223372036854775807
theorem rawD_off (d : D) : (rawD d).1.off = d.off ∧ (rawD d).1.b = d.b ∧ (rawD d).1.k = d.k := by unfold rawD; split <;> exact ⟨rfl, rfl, rfl⟩
theorem rawD_put (d : D) (i : Nat) (ys : List Int) : (rawD (putB d i ys)).2 = (rawD d).2 := by unfold rawD putB; split <;> rfl
/-- a raw write behind which the power may go: what Append and Sync and Truncate do after it -/
theorem Fit.raw {d : D} (h : Fit d) : Small (rawD d).1.b := by rw [(rawD_off d).2.1]; exact h.b
def appR (d : D) (f : Int) (ys : List Int) : D × Int := if rdy d f ≠ 0 then (d, rdy d f) else (appD d f.toNat ys, ans (rawD d).2)
def syncR (d : D) (f : Int) : D × Int := if rdy d f ≠ 0 then (d, rdy d f) else (syncD d f.toNat, ans (rawD d).2)
theorem rdy_ok {d : D} {f : Int} (h : rdy d f = 0) : ∃ i : Nat, f = i ∧ i < 2 ∧ d.off = false := by
  unfold rdy at h
  split at h
  · cases h
  · rename_i h1
    split at h
    · cases h
    · rename_i h2
      have h3 : ¬ f < 0 := fun e => h1 (.inl e)
      have h4 : ¬ 1 < f := fun e => h1 (.inr e)
      exact ⟨f.toNat, by omega, by omega, by simpa using h2⟩
set_option maxHeartbeats 2000000 in
theorem append_any {w : World} {base p : Nat} {cs : Nat → Sl} {d : D} (h : DAt w base p cs d) (hd : Fit d) (f : Int) (A : Option Addr) (m c : Nat) (ys : List Int) (hr : RdB w A m ys) (hsz : ∀ i, i < 4 → (d.b i).length + m ≤ 70368744177664) :
    Calls Tryd.prog 51 #[.pointer (some ⟨p, 0, none⟩), .int .i64 f, .slice A m c] w (RetD w base p cs (.int .i64 (appR d f ys).2) (appR d f ys).1) := by
  have HRD := Lib.hid (ready_any h f)
  have H := Lib.hid h
  have HR := Lib.hid hr
  have HA : Hid (appR d f ys = if rdy d f ≠ 0 then (d, rdy d f) else (appD d f.toNat ys, ans (rawD d).2)) := Lib.hid rfl
  by_cases h0 : rdy d f = 0
  · obtain ⟨i, rfl, hi, hoff⟩ := rdy_ok h0
    have HA := Lib.hid (HA.out.trans (if_neg (fun e => e h0)))
    rw [h0] at HRD
    have e1 := h.at1 hi
    have f1 := h.free (i * 2 + 1)
    have RW : Hid (OwB w base (cs (2 * i + 1)).A (cs (2 * i + 1)).n (cs (2 * i + 1)).c (d.b (2 * i + 1))) := Lib.hid (h.row (2 * i + 1) (by omega))
    have hbs := h.base_le
    have hpl := h.plt
    have hnp := Lib.hid (h.np (2 * i + 1) (by omega))
    have hl := hsz (2 * i + 1) (by omega)
    have hwl := RW.out.len
    rw [hwl] at hl
    have HSZ := Lib.hid hsz
    have HD := Lib.hid hd
    have HSL := Lib.hid (fun A1 n1 c1 zs w1 (hg : w.grownBy w1 (cs (2 * i + 1)).own) (hx : OwB w1 base A1 n1 c1 zs) (ho : ∀ g, (Value.slice A1 n1 c1).ownBlock = some g → (cs (2 * i + 1)).own = some g ∨ w.heap.size ≤ g) => h.slot (i := 2 * i + 1) (x := ⟨A1, n1, c1⟩) (by omega) hg hx ho)
    have HOWN : Hid ((cs (2 * i + 1)).own = (Value.slice (cs (2 * i + 1)).A (cs (2 * i + 1)).n (cs (2 * i + 1)).c).ownBlock) := Lib.hid rfl
    have hml := hr.len
    have hii : (i : Int) < 2 := by omega
    clear h hd hr hsz h0 hwl hoff
    generalize (cs (2 * i + 1)).A = wA at *
    generalize (cs (2 * i + 1)).n = wn at *
    generalize (cs (2 * i + 1)).c = wc at *
    go_enter Tryd.func51, Tryd.ntmps51
    go_wp2_with fail
    refine HRD.out.mono ?_
    rintro e w' ⟨rfl, rfl⟩
    go_wp2_with fail
    -- REGION
    have D0 : Hid (Below w.heap.size w w.drew) := Lib.hid (Below.refl _ _).drew
    refine begin_ (fun W : World => W.cell? ⟨p, i * 2 + 1, none⟩ = some (.slice wA wn wc)) [10, 15] (by kernel_rfl) ?_
    have hSw : (fun W : World => W.cell? ⟨p, i * 2 + 1, none⟩ = some (.slice wA wn wc)) w.drew := e1
    simp only [List.size_toArray, List.length_cons, List.length_nil, Nat.reduceAdd, Array.replicate_succ, Array.replicate_zero, List.push_toArray, List.append_toArray, List.nil_append, List.cons_append]
    refine move_a (i := 0) (v := ?_) rfl (by kernel_rfl) (by kernel_rfl) (by kernel_rfl) (fun _ _ _ h => h) (by rfl) ?_ ?_
    rotate_left
    · (intro w; go_simp; try with_reducible rfl)
    try simp only [Act.put, List.setIfInBounds_toArray, List.set_cons_zero, List.set_cons_succ]
    refine move_a (i := 1) (v := ?_) rfl (by kernel_rfl) (by kernel_rfl) (by kernel_rfl) (fun _ _ _ h => h) (by rfl) ?_ ?_
    rotate_left
    · (intro w; go_simp; try with_reducible rfl)
    try simp only [Act.put, List.setIfInBounds_toArray, List.set_cons_zero, List.set_cons_succ]
    refine move_a (i := 2) (v := ?_) rfl (by kernel_rfl) (by kernel_rfl) (by kernel_rfl) (fun _ _ _ h => h) (by rfl) ?_ ?_
    rotate_left
    · (intro w; go_simp; try with_reducible rfl)
    try simp only [Act.put, List.setIfInBounds_toArray, List.set_cons_zero, List.set_cons_succ]
    refine move_a (i := 3) (v := ?_) rfl (by kernel_rfl) (by kernel_rfl) (by kernel_rfl) (fun _ _ _ h => h) (by rfl) ?_ ?_
    rotate_left
    · (intro w; go_simp; try with_reducible rfl)
    try simp only [Act.put, List.setIfInBounds_toArray, List.set_cons_zero, List.set_cons_succ]
    refine move_a (i := 4) (v := ?_) rfl (by kernel_rfl) (by kernel_rfl) (by kernel_rfl) (fun _ _ _ h => h) (by rfl) ?_ ?_
    rotate_left
    · (intro w; go_simp; try with_reducible rfl)
    try simp only [Act.put, List.setIfInBounds_toArray, List.set_cons_zero, List.set_cons_succ]
    refine move_a (i := 5) (v := ?_) rfl (by kernel_rfl) (by kernel_rfl) (by kernel_rfl) (fun _ _ _ h => h) (by rfl) ?_ ?_
    rotate_left
    · (intro w; go_simp; try with_reducible rfl)
    try simp only [Act.put, List.setIfInBounds_toArray, List.set_cons_zero, List.set_cons_succ]
    refine move_a (i := 6) (v := ?_) rfl (by kernel_rfl) (by kernel_rfl) (by kernel_rfl) (fun _ _ _ h => h) (by rfl) ?_ ?_
    rotate_left
    · (intro w; go_simp; try with_reducible rfl)
    try simp only [Act.put, List.setIfInBounds_toArray, List.set_cons_zero, List.set_cons_succ]
    refine move_a (i := 7) (v := ?_) rfl (by kernel_rfl) (by kernel_rfl) (by kernel_rfl) (fun _ _ _ h => h) (by rfl) ?_ ?_
    rotate_left
    · (intro w; go_simp; try with_reducible rfl)
    try simp only [Act.put, List.setIfInBounds_toArray, List.set_cons_zero, List.set_cons_succ]
    refine move_b [10, 15] [10, 15] (i := 8) (v := ?_) rfl (by kernel_rfl) (by kernel_rfl) (by kernel_rfl) (fun _ _ _ h => h) (by kernel_rfl) (by kernel_rfl) (by kernel_rfl) (by rfl) ?_ hSw ?_
    rotate_left
    · (intro w hSw; (try dsimp only at hSw); go_simp; try with_reducible rfl)
    try simp only [Act.put, List.setIfInBounds_toArray, List.set_cons_zero, List.set_cons_succ]
    refine move_a (i := 9) (v := ?_) rfl (by kernel_rfl) (by kernel_rfl) (by kernel_rfl) (fun _ _ _ h => h) (by rfl) ?_ ?_
    rotate_left
    · (intro w; go_simp; try with_reducible rfl)
    try simp only [Act.put, List.setIfInBounds_toArray, List.set_cons_zero, List.set_cons_succ]
    refine move_a (i := 11) (v := ?_) rfl (by kernel_rfl) (by kernel_rfl) (by kernel_rfl) (fun _ _ _ h => h) (by rfl) ?_ ?_
    rotate_left
    · (intro w; go_simp; try with_reducible rfl)
    try simp only [Act.put, List.setIfInBounds_toArray, List.set_cons_zero, List.set_cons_succ]
    refine move_a (i := 12) (v := ?_) rfl (by kernel_rfl) (by kernel_rfl) (by kernel_rfl) (fun _ _ _ h => h) (by rfl) ?_ ?_
    rotate_left
    · (intro w; go_simp; try with_reducible rfl)
    try simp only [Act.put, List.setIfInBounds_toArray, List.set_cons_zero, List.set_cons_succ]
    refine move_c (i := 10) (by kernel_rfl) rfl (by rfl) (fun K hK => ?_)
    (refine stepAppH rfl (.tmp 22) (.tmp 23) rfl rfl rfl (RW.out.below D0.out) (HR.out.below D0.out) hbs (by omega) ?_; intro A1 n1 c1 w1 ho hg hob; have HF := Lib.hid (HSL.out A1 n1 c1 _ w1 (by rw [HOWN.out]; exact grownBy_undrew hg) ho (fun g e => by rw [HOWN.out]; exact hob g e)); have hpb : w1.heap[p]? = w.heap[p]? := hg.block p hpl (fun e => hnp.out (HOWN.out.trans e.symm)); have y1 : w1.cell? ⟨p, i * 2 + 1, none⟩ = some (.slice wA wn wc) := (World.cell?_of_block hpb).trans e1; have z1 : w1.frozen? ⟨p, i * 2 + 1, none⟩ = false := (World.frozen?_of_block hpb).trans f1; clear ho hg hob hpb)
    refine hK _ _ ?_
    clear hK K
    try simp only [Act.put, List.setIfInBounds_toArray, List.set_cons_zero, List.set_cons_succ]
    refine move_a (i := 13) (v := ?_) rfl (by kernel_rfl) (by kernel_rfl) (by kernel_rfl) (fun _ _ _ h => h) (by rfl) ?_ ?_
    rotate_left
    · (intro w; go_simp; try with_reducible rfl)
    try simp only [Act.put, List.setIfInBounds_toArray, List.set_cons_zero, List.set_cons_succ]
    refine move_a (i := 14) (v := ?_) rfl (by kernel_rfl) (by kernel_rfl) (by kernel_rfl) (fun _ _ _ h => h) (by rfl) ?_ ?_
    rotate_left
    · (intro w; go_simp; try with_reducible rfl)
    try simp only [Act.put, List.setIfInBounds_toArray, List.set_cons_zero, List.set_cons_succ]
    refine move_c (i := 15) (by kernel_rfl) rfl (by rfl) (fun K hK => ?_)
    go_simp
    refine hK _ _ ?_
    clear hK K
    try simp only [Act.put, List.setIfInBounds_toArray, List.set_cons_zero, List.set_cons_succ]
    refine move_d (by kernel_rfl) ?_
    rw [Nat.mul_comm i 2]
    obtain ⟨HF1, HF2⟩ := HF.out
    have HF1 := Lib.hid HF1
    have HF2 := Lib.hid HF2
    have HRaw := Lib.hid (raw_any HF1.out HD.out.n HD.out.a)
    have HAP : Hid (appD d i ys = gone (putB d (2 * i + 1) (d.b (2 * i + 1) ++ ys))) := Lib.hid rfl
    have hrp := rawD_put d (2 * i + 1) (d.b (2 * i + 1) ++ ys)
    rw [hrp] at HRaw
    have HRP := Lib.hid hrp
    have HG : Hid (gone (putB d (2 * i + 1) (d.b (2 * i + 1) ++ ys)) = if (rawD d).2 then offD (rawD (putB d (2 * i + 1) (d.b (2 * i + 1) ++ ys))).1 d.k else (rawD (putB d (2 * i + 1) (d.b (2 * i + 1) ++ ys))).1) := Lib.hid (by unfold gone; rw [hrp]; rfl)
    have hko := rawD_off (putB d (2 * i + 1) (d.b (2 * i + 1) ++ ys))
    have hsm : Small (rawD (putB d (2 * i + 1) (d.b (2 * i + 1) ++ ys))).1.b := by
      rw [hko.2.1]
      intro j hj
      show (upd d.b (2 * i + 1) (d.b (2 * i + 1) ++ ys) j).length ≤ _
      by_cases hji : j = 2 * i + 1
      · subst hji; rw [upd_same, List.length_append, hml]; exact HSZ.out _ hj
      · rw [upd_ne _ _ hji]; exact HD.out.b j hj
    have hkk : (rawD (putB d (2 * i + 1) (d.b (2 * i + 1) ++ ys))).1.k = d.k := hko.2.2
    have HKK := Lib.hid hkk
    have HSM := Lib.hid hsm
    have htn : (i : Int).toNat = i := by omega
    have HTN := Lib.hid htn
    clear hrp hko hsm hkk HF htn y1 z1 e1 f1
    generalize (rawD d).2 = gg at HRaw HG HA
    generalize (rawD (putB d (2 * i + 1) (d.b (2 * i + 1) ++ ys))).1 = d2 at HRaw HG HKK HSM
    go_wp2_with fail
    refine HRaw.out.mono ?_
    rintro e w3 ⟨rfl, h3, s3⟩
    have S3 := Lib.hid (HF2.out.trans s3)
    have H3 := Lib.hid h3
    cases gg
    · go_wp2
      go_ret
      refine ⟨by rw [HA.out]; rfl, _, ?_, S3.out⟩
      rw [HA.out, HTN.out, HAP.out, HG.out]
      exact H3.out
    · have e7 := h3.cells.2.2.2.2.2.2.2
      rw [HKK.out] at e7
      have HO := Lib.hid (off_any h3 HSM.out d.k HD.out.k)
      clear h3 s3
      go_wp2_with fail
      refine HO.out.mono ?_
      rintro e w4 hret
      have HRt := Lib.hid (RetD.from S3.out hret)
      clear hret
      obtain ⟨rfl, cs4, h4, s4⟩ := HRt.out
      go_wp2
      go_ret
      refine ⟨by rw [HA.out]; rfl, cs4, ?_, s4⟩
      rw [HA.out, HTN.out, HAP.out, HG.out]
      exact h4
  · have HA := Lib.hid (HA.out.trans (if_pos h0))
    have hb : (rdy d f == 0) = false := by simp [h0]
    have hb2 : (rdy d f != 0) = true := by simp [h0]
    clear h hd hr hsz h0
    generalize rdy d f = r at *
    go_enter Tryd.func51, Tryd.ntmps51
    go_wp2_with fail
    refine HRD.out.mono ?_
    rintro e w' ⟨rfl, rfl⟩
    go_wp2
    go_ret
    exact ⟨by rw [HA.out]; rfl, cs, by rw [HA.out]; exact H.out, DStep.refl _ _ _ _⟩
end Go.Proofs.YtfinaikgikifcaaDoor.diskw
/- What the disk's Sync and Truncate compute. -/
namespace Go.Proofs.YtfinaikgikifcaaDoor.diskw
open Go.RowKit Go.Proofs.YtfinaikgikifcaaDoorW.PrintWords Go.Proofs.YtfinaikgikifcaaDoor.base Go.Proofs.YtfinaikgikifcaaDoor.mem Go.Proofs.YtfinaikgikifcaaDoor.keep Go.Proofs.YtfinaikgikifcaaDoor.diskp Go.Proofs.YtfinaikgikifcaaDoor.diskr Go.Proofs.YtfinaikgikifcaaDoor.ordt

def cutR (d : D) (f n : Int) : D × Int :=
  if rdy d f = 1 then (d, 1) else if n < 0 ∨ ((fileB d f.toNat).length : Int) < n then (d, 1) else if rdy d f ≠ 0 then (d, rdy d f) else (cutD d f.toNat n.toNat, ans (rawD d).2)
set_option maxHeartbeats 2000000 in
theorem sync_any {w : World} {base p : Nat} {cs : Nat → Sl} {d : D} (h : DAt w base p cs d) (hd : Fit d) (f : Int) :
    Calls Tryd.prog 52 #[.pointer (some ⟨p, 0, none⟩), .int .i64 f] w (RetD w base p cs (.int .i64 (syncR d f).2) (syncR d f).1) := by
  have HRD := Lib.hid (ready_any h f)
  have H := Lib.hid h
  have HA : Hid (syncR d f = if rdy d f ≠ 0 then (d, rdy d f) else (syncD d f.toNat, ans (rawD d).2)) := Lib.hid rfl
  by_cases h0 : rdy d f = 0
  · obtain ⟨i, rfl, hi, hoff⟩ := rdy_ok h0
    have HA := Lib.hid (HA.out.trans (if_neg (fun e => e h0)))
    rw [h0] at HRD
    have hii : (i : Int) < 2 := by omega
    have HRaw := Lib.hid (raw_any h hd.n hd.a)
    have HKK := Lib.hid (rawD_off d).2.2
    have HBB := Lib.hid (rawD_off d).2.1
    have HSM := Lib.hid hd.raw
    have HK := Lib.hid hd.k
    have HSZ := Lib.hid hd.b
    have HS : Hid (syncD d i = if (rawD d).2 then gone d else syncB (gone d) i) := Lib.hid rfl
    have HG : Hid (gone d = if (rawD d).2 then offD (rawD d).1 d.k else (rawD d).1) := Lib.hid rfl
    have htn : (i : Int).toNat = i := by omega
    have HTN := Lib.hid htn
    clear h hd h0 hoff htn
    generalize (rawD d).2 = gg at HRaw HG HA HS
    generalize (rawD d).1 = d2 at HRaw HG HKK HSM HBB
    go_enter Tryd.func52, Tryd.ntmps52
    go_wp2_with fail
    refine HRD.out.mono ?_
    rintro e w' ⟨rfl, rfl⟩
    go_wp2_with fail
    refine HRaw.out.mono ?_
    rintro e w3 ⟨rfl, h3, s3⟩
    have S3 := Lib.hid s3
    cases gg
    · have e0 := h3.at0 hi
      have e1 := h3.at1 hi
      have f0 := h3.free (i * 2)
      have f1 := h3.free (i * 2 + 1)
      have RS : Hid (OwB w3 base (cs (2 * i)).A (cs (2 * i)).n (cs (2 * i)).c (d2.b (2 * i))) := Lib.hid (h3.row (2 * i) (by omega))
      have RW : Hid (OwB w3 base (cs (2 * i + 1)).A (cs (2 * i + 1)).n (cs (2 * i + 1)).c (d2.b (2 * i + 1))) := Lib.hid (h3.row (2 * i + 1) (by omega))
      have hbs := h3.base_le
      have hpl := h3.plt
      have hnp := Lib.hid (h3.np (2 * i) (by omega))
      have HT := Lib.hid (fun A n c ys w1 hg hx ho => two_slots h3 (f := i) hi (A := A) (n := n) (c := c) (ys := ys) (w1 := w1) hg hx ho)
      have HOWN : Hid ((cs (2 * i)).own = (Value.slice (cs (2 * i)).A (cs (2 * i)).n (cs (2 * i)).c).ownBlock) := Lib.hid rfl
      have l0 : (cs (2 * i)).n ≤ 70368744177664 := by rw [← RS.out.len, HBB.out]; exact HSZ.out _ (by omega)
      have l1 : (cs (2 * i + 1)).n ≤ 70368744177664 := by rw [← RW.out.len, HBB.out]; exact HSZ.out _ (by omega)
      have hcap := RW.out.cap
      clear h3 s3
      generalize (cs (2 * i)).A = sA at *
      generalize (cs (2 * i)).n = sn at *
      generalize (cs (2 * i)).c = sc at *
      generalize (cs (2 * i + 1)).A = wA at *
      generalize (cs (2 * i + 1)).n = wn at *
      generalize (cs (2 * i + 1)).c = wc at *
      go_wp2_with fail
      refine begin_ (fun W : World => W.cell? ⟨p, i * 2, none⟩ = some (.slice sA sn sc) ∧ W.cell? ⟨p, i * 2 + 1, none⟩ = some (.slice wA wn wc)) [10, 13, 16] (by kernel_rfl) ?_
      have hSw : (fun W : World => W.cell? ⟨p, i * 2, none⟩ = some (.slice sA sn sc) ∧ W.cell? ⟨p, i * 2 + 1, none⟩ = some (.slice wA wn wc)) w3.drew := ⟨e0, e1⟩
      simp only [List.size_toArray, List.length_cons, List.length_nil, Nat.reduceAdd, Array.replicate_succ, Array.replicate_zero, List.push_toArray, List.append_toArray, List.nil_append, List.cons_append]
      refine move_a (i := 0) (v := ?_) rfl (by kernel_rfl) (by kernel_rfl) (by kernel_rfl) (fun _ _ _ h => h) (by rfl) ?_ ?_
      rotate_left
      · (intro w; go_simp; try with_reducible rfl)
      try simp only [Act.put, List.setIfInBounds_toArray, List.set_cons_zero, List.set_cons_succ]
      refine move_a (i := 1) (v := ?_) rfl (by kernel_rfl) (by kernel_rfl) (by kernel_rfl) (fun _ _ _ h => h) (by rfl) ?_ ?_
      rotate_left
      · (intro w; go_simp; try with_reducible rfl)
      try simp only [Act.put, List.setIfInBounds_toArray, List.set_cons_zero, List.set_cons_succ]
      refine move_a (i := 2) (v := ?_) rfl (by kernel_rfl) (by kernel_rfl) (by kernel_rfl) (fun _ _ _ h => h) (by rfl) ?_ ?_
      rotate_left
      · (intro w; go_simp; try with_reducible rfl)
      try simp only [Act.put, List.setIfInBounds_toArray, List.set_cons_zero, List.set_cons_succ]
      refine move_a (i := 3) (v := ?_) rfl (by kernel_rfl) (by kernel_rfl) (by kernel_rfl) (fun _ _ _ h => h) (by rfl) ?_ ?_
      rotate_left
      · (intro w; go_simp; try with_reducible rfl)
      try simp only [Act.put, List.setIfInBounds_toArray, List.set_cons_zero, List.set_cons_succ]
      refine move_a (i := 4) (v := ?_) rfl (by kernel_rfl) (by kernel_rfl) (by kernel_rfl) (fun _ _ _ h => h) (by rfl) ?_ ?_
      rotate_left
      · (intro w; go_simp; try with_reducible rfl)
      try simp only [Act.put, List.setIfInBounds_toArray, List.set_cons_zero, List.set_cons_succ]
      refine move_b [10, 13, 16] [10, 13, 16] (i := 5) (v := ?_) rfl (by kernel_rfl) (by kernel_rfl) (by kernel_rfl) (fun _ _ _ h => h) (by kernel_rfl) (by kernel_rfl) (by kernel_rfl) (by rfl) ?_ hSw ?_
      rotate_left
      · (intro w hSw; (try dsimp only at hSw); go_simp; try with_reducible rfl)
      try simp only [Act.put, List.setIfInBounds_toArray, List.set_cons_zero, List.set_cons_succ]
      refine move_a (i := 6) (v := ?_) rfl (by kernel_rfl) (by kernel_rfl) (by kernel_rfl) (fun _ _ _ h => h) (by rfl) ?_ ?_
      rotate_left
      · (intro w; go_simp; try with_reducible rfl)
      try simp only [Act.put, List.setIfInBounds_toArray, List.set_cons_zero, List.set_cons_succ]
      refine move_a (i := 7) (v := ?_) rfl (by kernel_rfl) (by kernel_rfl) (by kernel_rfl) (fun _ _ _ h => h) (by rfl) ?_ ?_
      rotate_left
      · (intro w; go_simp; try with_reducible rfl)
      try simp only [Act.put, List.setIfInBounds_toArray, List.set_cons_zero, List.set_cons_succ]
      refine move_a (i := 8) (v := ?_) rfl (by kernel_rfl) (by kernel_rfl) (by kernel_rfl) (fun _ _ _ h => h) (by rfl) ?_ ?_
      rotate_left
      · (intro w; go_simp; try with_reducible rfl)
      try simp only [Act.put, List.setIfInBounds_toArray, List.set_cons_zero, List.set_cons_succ]
      refine move_b [10, 13, 16] [10, 13, 16] (i := 9) (v := ?_) rfl (by kernel_rfl) (by kernel_rfl) (by kernel_rfl) (fun _ _ _ h => h) (by kernel_rfl) (by kernel_rfl) (by kernel_rfl) (by rfl) ?_ hSw ?_
      rotate_left
      · (intro w hSw; (try dsimp only at hSw); go_simp; try with_reducible rfl)
      try simp only [Act.put, List.setIfInBounds_toArray, List.set_cons_zero, List.set_cons_succ]
      refine move_c (i := 10) (by kernel_rfl) rfl (by rfl) (fun K hK => ?_)
      (refine stepAppH rfl (.tmp 31) (.tmp 35) rfl rfl rfl (RS.out.below (Below.refl _ _).drew) (RW.out.rd.below (Below.refl _ _).drew) hbs (by omega) ?_; intro A1 n1 c1 w1 ho hg hob; have HO := Lib.hid ho; have HG1 := Lib.hid hg; have HOB := Lib.hid hob; have hpb : w1.heap[p]? = w3.heap[p]? := hg.block p hpl (fun e => hnp.out (HOWN.out.trans e.symm)); have y0 : w1.cell? ⟨p, i * 2, none⟩ = some (.slice sA sn sc) := (World.cell?_of_block hpb).trans e0; have y1 : w1.cell? ⟨p, i * 2 + 1, none⟩ = some (.slice wA wn wc) := (World.cell?_of_block hpb).trans e1; have z0 : w1.frozen? ⟨p, i * 2, none⟩ = false := (World.frozen?_of_block hpb).trans f0; have z1 : w1.frozen? ⟨p, i * 2 + 1, none⟩ = false := (World.frozen?_of_block hpb).trans f1; clear ho hg hob hpb)
      refine hK _ _ ?_
      clear hK K
      try simp only [Act.put, List.setIfInBounds_toArray, List.set_cons_zero, List.set_cons_succ]
      refine move_a (i := 11) (v := ?_) rfl (by kernel_rfl) (by kernel_rfl) (by kernel_rfl) (fun _ _ _ h => h) (by rfl) ?_ ?_
      rotate_left
      · (intro w; go_simp; try with_reducible rfl)
      try simp only [Act.put, List.setIfInBounds_toArray, List.set_cons_zero, List.set_cons_succ]
      refine move_a (i := 12) (v := ?_) rfl (by kernel_rfl) (by kernel_rfl) (by kernel_rfl) (fun _ _ _ h => h) (by rfl) ?_ ?_
      rotate_left
      · (intro w; go_simp; try with_reducible rfl)
      try simp only [Act.put, List.setIfInBounds_toArray, List.set_cons_zero, List.set_cons_succ]
      refine move_c (i := 13) (by kernel_rfl) rfl (by rfl) (fun K hK => ?_)
      go_simp
      refine hK _ _ ?_
      clear hK K
      try simp only [Act.put, List.setIfInBounds_toArray, List.set_cons_zero, List.set_cons_succ]
      refine move_a (i := 14) (v := ?_) rfl (by kernel_rfl) (by kernel_rfl) (by kernel_rfl) (fun _ _ _ h => h) (by rfl) ?_ ?_
      rotate_left
      · (intro w; go_simp; try with_reducible rfl)
      try simp only [Act.put, List.setIfInBounds_toArray, List.set_cons_zero, List.set_cons_succ]
      refine move_a (i := 15) (v := ?_) rfl (by kernel_rfl) (by kernel_rfl) (by kernel_rfl) (fun _ _ _ h => h) (by rfl) ?_ ?_
      rotate_left
      · (intro w; go_simp; try with_reducible rfl)
      try simp only [Act.put, List.setIfInBounds_toArray, List.set_cons_zero, List.set_cons_succ]
      refine move_c (i := 16) (by kernel_rfl) rfl (by rfl) (fun K hK => ?_)
      go_simp
      refine hK _ _ ?_
      clear hK K
      try simp only [Act.put, List.setIfInBounds_toArray, List.set_cons_zero, List.set_cons_succ]
      refine move_d (by kernel_rfl) ?_
      have HF := Lib.hid (HT.out A1 n1 c1 _ w1 (by rw [HOWN.out]; exact grownBy_undrew HG1.out) HO.out (fun g e => by rw [HOWN.out]; exact HOB.out g e))
      rw [Nat.mul_comm i 2]
      go_wp2
      go_ret
      refine ⟨by rw [HA.out]; rfl, _, ?_, S3.out.trans HF.out.2⟩
      rw [HA.out, HTN.out, HS.out, HG.out]
      exact HF.out.1
    · have e7 := h3.cells.2.2.2.2.2.2.2
      rw [HKK.out] at e7
      have HO := Lib.hid (off_any h3 HSM.out d.k HK.out)
      clear h3 s3
      go_wp2_with fail
      refine HO.out.mono ?_
      rintro e w4 hret
      have HRt := Lib.hid (RetD.from S3.out hret)
      clear hret
      obtain ⟨rfl, cs4, h4, s4⟩ := HRt.out
      go_wp2
      go_ret
      refine ⟨by rw [HA.out]; rfl, cs4, ?_, s4⟩
      rw [HA.out, HTN.out, HS.out, HG.out]
      exact h4
  · have HA := Lib.hid (HA.out.trans (if_pos h0))
    have hb : (rdy d f == 0) = false := by simp [h0]
    have hb2 : (rdy d f != 0) = true := by simp [h0]
    clear h hd h0
    generalize rdy d f = r at *
    go_enter Tryd.func52, Tryd.ntmps52
    go_wp2_with fail
    refine HRD.out.mono ?_
    rintro e w' ⟨rfl, rfl⟩
    go_wp2
    go_ret
    exact ⟨by rw [HA.out]; rfl, cs, by rw [HA.out]; exact H.out, DStep.refl _ _ _ _⟩
end Go.Proofs.YtfinaikgikifcaaDoor.diskw
/- What the disk's Truncate computes. -/
namespace Go.Proofs.YtfinaikgikifcaaDoor.diskw
open Go.RowKit Go.Proofs.YtfinaikgikifcaaDoorW.PrintWords Go.Proofs.YtfinaikgikifcaaDoor.base Go.Proofs.YtfinaikgikifcaaDoor.mem Go.Proofs.YtfinaikgikifcaaDoor.keep Go.Proofs.YtfinaikgikifcaaDoor.diskp Go.Proofs.YtfinaikgikifcaaDoor.diskr Go.Proofs.YtfinaikgikifcaaDoor.ordt

theorem rdy_cases (d : D) (f : Int) : rdy d f = 1 ∨ ∃ i : Nat, f = i ∧ i < 2 ∧ rdy d f = ans d.off := by
  unfold rdy ans
  by_cases h : f < 0 ∨ 1 < f
  · exact .inl (if_pos h)
  · refine .inr ⟨f.toNat, ?_, ?_, if_neg h⟩
    · have h3 : ¬ f < 0 := fun e => h (.inl e)
      omega
    · have h4 : ¬ 1 < f := fun e => h (.inr e)
      omega
theorem take_K {xs : List Int} {q K : Nat} (h : K = min q xs.length) : xs.take q = xs.take K := by
  rw [h, ← List.take_take, List.take_length]
set_option maxHeartbeats 4000000 in
theorem trunc_any {w : World} {base p : Nat} {cs : Nat → Sl} {d : D} (h : DAt w base p cs d) (hd : Fit d) (f n : Int) (hn : -9223372036854775808 ≤ n ∧ n ≤ 9223372036854775807) :
    Calls Tryd.prog 39 #[.pointer (some ⟨p, 0, none⟩), .int .i64 f, .int .i64 n] w (RetD w base p cs (.int .i64 (cutR d f n).2) (cutR d f n).1) := by
  have HRD := Lib.hid (ready_any h f)
  have H := Lib.hid h
  have HA : Hid (cutR d f n = if rdy d f = 1 then (d, 1) else if n < 0 ∨ ((fileB d f.toNat).length : Int) < n then (d, 1) else if rdy d f ≠ 0 then (d, rdy d f) else (cutD d f.toNat n.toNat, ans (rawD d).2)) := Lib.hid rfl
  rcases rdy_cases d f with h1 | ⟨i, rfl, hi, hre⟩
  · have HA := Lib.hid (HA.out.trans (if_pos h1))
    rw [h1] at HRD
    clear h hd h1
    go_enter Tryd.func39, Tryd.ntmps39
    go_wp2_with fail
    refine HRD.out.mono ?_
    rintro e w' ⟨rfl, rfl⟩
    go_wp2
    go_ret
    exact ⟨by rw [HA.out]; rfl, cs, by rw [HA.out]; exact H.out, DStep.refl _ _ _ _⟩
  · have htn : (i : Int).toNat = i := by omega
    have hr1 : rdy d (i : Int) ≠ 1 := by rw [hre]; unfold ans; split <;> decide
    have HA := Lib.hid (HA.out.trans (if_neg hr1))
    rw [htn] at HA
    rw [hre] at HRD HA
    have hii : (i : Int) < 2 := by omega
    have e0 := h.at0 hi
    have e1 := h.at1 hi
    have RS : Hid (OwB w base (cs (2 * i)).A (cs (2 * i)).n (cs (2 * i)).c (d.b (2 * i))) := Lib.hid (h.row (2 * i) (by omega))
    have RW : Hid (OwB w base (cs (2 * i + 1)).A (cs (2 * i + 1)).n (cs (2 * i + 1)).c (d.b (2 * i + 1))) := Lib.hid (h.row (2 * i + 1) (by omega))
    have l0 : (cs (2 * i)).n ≤ 70368744177664 := by rw [← RS.out.len]; exact hd.b _ (by omega)
    have l1 : (cs (2 * i + 1)).n ≤ 70368744177664 := by rw [← RW.out.len]; exact hd.b _ (by omega)
    have hfl : (fileB d i).length = (cs (2 * i)).n + (cs (2 * i + 1)).n := by unfold fileB; rw [List.length_append, RS.out.len, RW.out.len]
    rw [hfl] at HA
    have HDR := Lib.hid (fun q => h.below (pw_below_drewN (Below.refl w.heap.size w) q))
    have SDR := Lib.hid (fun q => DStep.below (cs := cs) (p := p) (pw_below_drewN (Below.refl w.heap.size w) q) h.base_le)
    have HRaw := Lib.hid (fun q => raw_any (HDR.out q) hd.n hd.a)
    have HKK := Lib.hid (rawD_off d).2.2
    have HBB := Lib.hid (rawD_off d).2.1
    have HSM := Lib.hid hd.raw
    have HK := Lib.hid hd.k
    have hw1 : IntKind.i64.wrap (((cs (2 * i)).n : Int) + ((cs (2 * i + 1)).n : Int)) = ((cs (2 * i)).n : Int) + ((cs (2 * i + 1)).n : Int) := by rw [IntKind.wrap_i64]; omega
    have hS : Hid (cutD d i n.toNat = if (rawD d).2 then gone d else cutB (gone d) i n.toNat) := Lib.hid rfl
    have HG : Hid (gone d = if (rawD d).2 then offD (rawD d).1 d.k else (rawD d).1) := Lib.hid rfl
    have HLS := Lib.hid RS.out.len
    have HLW := Lib.hid RW.out.len
    have hcS := RS.out.cap
    have hcW := RW.out.cap
    clear h hd htn hr1 hre hfl RS RW
    obtain ⟨hn0, hn1⟩ := hn
    generalize (rawD d).2 = gg at *
    generalize hd2 : (rawD d).1 = d2 at *
    clear hd2
    obtain ⟨sA, hsA⟩ : ∃ x, (cs (2 * i)).A = x := ⟨_, rfl⟩
    obtain ⟨sn, hsn⟩ : ∃ x, (cs (2 * i)).n = x := ⟨_, rfl⟩
    obtain ⟨sc, hsc⟩ : ∃ x, (cs (2 * i)).c = x := ⟨_, rfl⟩
    obtain ⟨wA, hwA⟩ : ∃ x, (cs (2 * i + 1)).A = x := ⟨_, rfl⟩
    obtain ⟨wn, hwn⟩ : ∃ x, (cs (2 * i + 1)).n = x := ⟨_, rfl⟩
    obtain ⟨wc, hwc⟩ : ∃ x, (cs (2 * i + 1)).c = x := ⟨_, rfl⟩
    rw [hsA, hsn, hsc] at e0
    rw [hwA, hwn, hwc] at e1
    rw [hsn] at l0 hcS HLS
    rw [hwn] at l1 hcW HLW
    rw [hsn, hwn] at hw1 HA
    rw [hsc] at hcS
    rw [hwc] at hcW
    have HsA := Lib.hid hsA
    have Hsn := Lib.hid hsn
    have Hsc := Lib.hid hsc
    have HwA := Lib.hid hwA
    have Hwn := Lib.hid hwn
    have Hwc := Lib.hid hwc
    clear hsA hsn hsc hwA hwn hwc
    by_cases hbad : n < 0 ∨ ((sn : Int) + (wn : Int)) < n
    · have HA := Lib.hid (HA.out.trans (if_pos (by simpa using hbad)))
      have HRt : Hid (∀ q, RetD w base p cs (.int .i64 (cutR d (i : Int) n).2) (cutR d (i : Int) n).1 (.returned (.int .i64 1)) (w.drewN q)) := Lib.hid fun q => ⟨by rw [HA.out], cs, by rw [HA.out]; exact HDR.out q, SDR.out q⟩
      cases ho : d.off
      all_goals
        rw [ho] at HRD
        rcases hbad with hb | hb
        · go_enter Tryd.func39, Tryd.ntmps39
          go_wp2_with fail
          refine HRD.out.mono ?_
          rintro e w' ⟨rfl, rfl⟩
          simp only [ans, if_true, if_false, Bool.false_eq_true]
          go_wp2_with fail
          go_quiet (fail)
          go_wp2
          go_ret
          exact HRt.out _
        · have hb0 : ¬ n < 0 := by omega
          go_enter Tryd.func39, Tryd.ntmps39
          go_wp2_with fail
          refine HRD.out.mono ?_
          rintro e w' ⟨rfl, rfl⟩
          simp only [ans, if_true, if_false, Bool.false_eq_true]
          go_wp2_with fail
          go_quiet (fail)
          go_wp2
          go_ret
          exact HRt.out _
    · have hb0 : ¬ n < 0 := fun e => hbad (.inl e)
      have hb1 : ¬ ((sn : Int) + (wn : Int)) < n := fun e => hbad (.inr e)
      have HA := Lib.hid (HA.out.trans (if_neg (by simpa using hbad)))
      clear hbad
      cases ho : d.off
      · rw [ho] at HRD HA
        have HA := Lib.hid (HA.out.trans (if_neg (by simp [ans])))
        clear ho
        go_enter Tryd.func39, Tryd.ntmps39
        go_wp2_with fail
        refine HRD.out.mono ?_
        rintro e w' ⟨rfl, rfl⟩
        simp only [ans, if_true, if_false, Bool.false_eq_true]
        go_wp2_with fail
        go_quiet (fail)
        clear hw1 e0 e1
        go_wp2_with fail
        refine (HRaw.out _).mono ?_
        rintro e w3 ⟨rfl, h3, s3⟩
        have S3 := Lib.hid ((SDR.out _).trans s3)
        clear HDR SDR HRaw s3
        cases gg
        · have e0 := h3.at0 hi
          have e1 := h3.at1 hi
          have f0 := h3.free (i * 2)
          have f1 := h3.free (i * 2 + 1)
          have RS0 := h3.row (2 * i) (by omega)
          have RW0 := h3.row (2 * i + 1) (by omega)
          unfold OwS at RS0 RW0
          rw [HsA.out, Hsn.out, Hsc.out] at e0 RS0
          rw [HwA.out, Hwn.out, Hwc.out] at e1 RW0
          have RS := Lib.hid RS0
          have RW := Lib.hid RW0
          obtain ⟨K1, hK1⟩ : ∃ K1, n.toNat - sn = K1 := ⟨_, rfl⟩
          obtain ⟨K2, hK2⟩ : ∃ K2, min n.toNat sn = K2 := ⟨_, rfl⟩
          have k1w : K1 ≤ wn := by omega
          have k2s : K2 ≤ sn := by omega
          have mx1 : (if (sn : Int) < n then n - (sn : Int) else 0) = (K1 : Int) := by split <;> omega
          have mx2 : (if (sn : Int) < n then (sn : Int) else n) = (K2 : Int) := by split <;> omega
          have hw2 : IntKind.i64.wrap (n - (sn : Int)) = n - (sn : Int) := by rw [IntKind.wrap_i64]; omega
          have HA1 := Lib.hid (h3.slot (i := 2 * i + 1) (x := ⟨wA, K1, wc⟩) (by omega) (grownBy_self w3 _) (OwB.first RW.out K1 k1w) (fun g e => .inl (by unfold Sl.own; rw [HwA.out, Hwn.out, Hwc.out]; exact own_same e)))
          have hK1c : (K1 : Int) ≤ (wc : Int) := by omega
          have hK10 : (0 : Int) ≤ (K1 : Int) := by omega
          have hK2c : (K2 : Int) ≤ (sc : Int) := by omega
          have hK20 : (0 : Int) ≤ (K2 : Int) := by omega
          have HK1 := Lib.hid hK1
          have HK2 := Lib.hid hK2
          clear h3 RS0 RW0 hK1 hK2
          have D3 : Hid (w3.drew.heap = w3.heap) := Lib.hid rfl
          go_wp2_with fail
          refine begin_ (fun W : World => W.cell? ⟨p, i * 2, none⟩ = some (.slice sA sn sc) ∧ W.cell? ⟨p, i * 2 + 1, none⟩ = some (.slice wA wn wc)) [16] (by kernel_rfl) ?_
          have hSw : (fun W : World => W.cell? ⟨p, i * 2, none⟩ = some (.slice sA sn sc) ∧ W.cell? ⟨p, i * 2 + 1, none⟩ = some (.slice wA wn wc)) w3.drew := ⟨e0, e1⟩
          simp only [List.size_toArray, List.length_cons, List.length_nil, Nat.reduceAdd, Array.replicate_succ, Array.replicate_zero, List.push_toArray, List.append_toArray, List.nil_append, List.cons_append]
          refine move_a (i := 0) (v := ?_) rfl (by kernel_rfl) (by kernel_rfl) (by kernel_rfl) (fun _ _ _ h => h) (by rfl) ?_ ?_
          rotate_left
          · (intro w; go_simp; try with_reducible rfl)
          try simp only [Act.put, List.setIfInBounds_toArray, List.set_cons_zero, List.set_cons_succ]
          refine move_a (i := 1) (v := ?_) rfl (by kernel_rfl) (by kernel_rfl) (by kernel_rfl) (fun _ _ _ h => h) (by rfl) ?_ ?_
          rotate_left
          · (intro w; go_simp; try with_reducible rfl)
          try simp only [Act.put, List.setIfInBounds_toArray, List.set_cons_zero, List.set_cons_succ]
          refine move_a (i := 2) (v := ?_) rfl (by kernel_rfl) (by kernel_rfl) (by kernel_rfl) (fun _ _ _ h => h) (by rfl) ?_ ?_
          rotate_left
          · (intro w; go_simp; try with_reducible rfl)
          try simp only [Act.put, List.setIfInBounds_toArray, List.set_cons_zero, List.set_cons_succ]
          refine move_a (i := 3) (v := ?_) rfl (by kernel_rfl) (by kernel_rfl) (by kernel_rfl) (fun _ _ _ h => h) (by rfl) ?_ ?_
          rotate_left
          · (intro w; go_simp; try with_reducible rfl)
          try simp only [Act.put, List.setIfInBounds_toArray, List.set_cons_zero, List.set_cons_succ]
          refine move_b [13, 16] [16] (i := 4) (v := ?_) rfl (by kernel_rfl) (by kernel_rfl) (by kernel_rfl) (fun _ _ _ h => h) (by kernel_rfl) (by kernel_rfl) (by kernel_rfl) (by rfl) ?_ hSw ?_
          rotate_left
          · (intro w hSw; (try dsimp only at hSw); go_simp; try with_reducible rfl)
          try simp only [Act.put, List.setIfInBounds_toArray, List.set_cons_zero, List.set_cons_succ]
          refine move_a (i := 5) (v := ?_) rfl (by kernel_rfl) (by kernel_rfl) (by kernel_rfl) (fun _ _ _ h => h) (by rfl) ?_ ?_
          rotate_left
          · (intro w; go_simp; try with_reducible rfl)
          try simp only [Act.put, List.setIfInBounds_toArray, List.set_cons_zero, List.set_cons_succ]
          refine move_a (i := 6) (v := ?_) rfl (by kernel_rfl) (by kernel_rfl) (by kernel_rfl) (fun _ _ _ h => h) (by rfl) ?_ ?_
          rotate_left
          · (intro w; go_simp; try with_reducible rfl)
          try simp only [Act.put, List.setIfInBounds_toArray, List.set_cons_zero, List.set_cons_succ]
          refine move_a (i := 7) (v := ?_) rfl (by kernel_rfl) (by kernel_rfl) (by kernel_rfl) (fun _ _ _ h => h) (by rfl) ?_ ?_
          rotate_left
          · (intro w; go_simp; try with_reducible rfl)
          try simp only [Act.put, List.setIfInBounds_toArray, List.set_cons_zero, List.set_cons_succ]
          refine move_a (i := 8) (v := ?_) rfl (by kernel_rfl) (by kernel_rfl) (by kernel_rfl) (fun _ _ _ h => h) (by rfl) ?_ ?_
          rotate_left
          · (intro w; go_simp; try with_reducible rfl)
          try simp only [Act.put, List.setIfInBounds_toArray, List.set_cons_zero, List.set_cons_succ]
          refine move_b [10, 11, 12, 13, 16] [16] (i := 9) (v := ?_) rfl (by kernel_rfl) (by kernel_rfl) (by kernel_rfl) (fun _ _ _ h => h) (by kernel_rfl) (by kernel_rfl) (by kernel_rfl) (by rfl) ?_ hSw ?_
          rotate_left
          · (intro w hSw; (try dsimp only at hSw); go_simp; try with_reducible rfl)
          try simp only [Act.put, List.setIfInBounds_toArray, List.set_cons_zero, List.set_cons_succ]
          refine move_a (i := 10) (v := ?_) rfl (by kernel_rfl) (by kernel_rfl) (by kernel_rfl) (fun _ _ _ h => h) (by rfl) ?_ ?_
          rotate_left
          · (intro w; go_simp; try with_reducible rfl)
          try simp only [Act.put, List.setIfInBounds_toArray, List.set_cons_zero, List.set_cons_succ]
          refine move_a (i := 11) (v := ?_) rfl (by kernel_rfl) (by kernel_rfl) (by kernel_rfl) (fun _ _ _ h => h) (by rfl) ?_ ?_
          rotate_left
          · (intro w; go_simp; try with_reducible rfl)
          try simp only [Act.put, List.setIfInBounds_toArray, List.set_cons_zero, List.set_cons_succ]
          refine move_a (i := 12) (v := ?_) rfl (by kernel_rfl) (by kernel_rfl) (by kernel_rfl) (fun _ _ _ h => h) (by rfl) ?_ ?_
          rotate_left
          · (intro w; go_simp; try with_reducible rfl)
          try simp only [Act.put, List.setIfInBounds_toArray, List.set_cons_zero, List.set_cons_succ]
          refine move_a (i := 13) (v := ?_) rfl (by kernel_rfl) (by kernel_rfl) (by kernel_rfl) (fun _ _ _ h => h) (by rfl) ?_ ?_
          rotate_left
          · (intro w; go_simp; try with_reducible rfl)
          try simp only [Act.put, List.setIfInBounds_toArray, List.set_cons_zero, List.set_cons_succ]
          refine move_a (i := 14) (v := ?_) rfl (by kernel_rfl) (by kernel_rfl) (by kernel_rfl) (fun _ _ _ h => h) (by rfl) ?_ ?_
          rotate_left
          · (intro w; go_simp; try with_reducible rfl)
          try simp only [Act.put, List.setIfInBounds_toArray, List.set_cons_zero, List.set_cons_succ]
          refine move_a (i := 15) (v := ?_) rfl (by kernel_rfl) (by kernel_rfl) (by kernel_rfl) (fun _ _ _ h => h) (by rfl) ?_ ?_
          rotate_left
          · (intro w; go_simp; try with_reducible rfl)
          try simp only [Act.put, List.setIfInBounds_toArray, List.set_cons_zero, List.set_cons_succ]
          refine move_c (i := 16) (by kernel_rfl) rfl (by rfl) (fun K hK => ?_)
          go_simp
          refine hK _ _ ?_
          clear hK K
          try simp only [Act.put, List.setIfInBounds_toArray, List.set_cons_zero, List.set_cons_succ]
          refine move_d (by kernel_rfl) ?_
          rw [show (⟨p, i * 2 + 1, none⟩ : Addr) = ⟨p, 2 * i + 1, none⟩ from by rw [Nat.mul_comm]]
          obtain ⟨h4, s4⟩ := HA1.out
          have HX1 := Lib.hid (h4.drewd)
          have SX1 := Lib.hid (s4.drewd)
          rw [show (⟨wA, K1, wc⟩ : Sl).val = .slice wA K1 wc from rfl] at HX1 SX1
          clear h4 s4 HA1 e0 e1 f0 f1
          generalize (w3.setCell ⟨p, 2 * i + 1, none⟩ (.slice wA K1 wc)).drew = w4 at HX1 SX1 ⊢
          have e0 := HX1.out.at0 hi
          have f0 := HX1.out.free (i * 2)
          rw [upd_ne _ _ (show 2 * i ≠ 2 * i + 1 by omega), HsA.out, Hsn.out, Hsc.out] at e0
          have RS4 := HX1.out.row (2 * i) (by omega)
          unfold OwS at RS4
          rw [upd_ne _ _ (show 2 * i ≠ 2 * i + 1 by omega), HsA.out, Hsn.out, Hsc.out] at RS4
          have RS4' : OwB w4 base sA sn sc (d2.b (2 * i)) := by
            have : (putB d2 (2 * i + 1) ((d2.b (2 * i + 1)).take K1)).b (2 * i) = d2.b (2 * i) := upd_ne _ _ (show 2 * i ≠ 2 * i + 1 by omega)
            rw [this] at RS4
            exact RS4
          have HA2 := Lib.hid (HX1.out.slot (i := 2 * i) (x := ⟨sA, K2, sc⟩) (by omega) (grownBy_self w4 _) (OwB.first RS4' K2 k2s) (fun g e => .inl (by unfold Sl.own; rw [upd_ne _ _ (show 2 * i ≠ 2 * i + 1 by omega), HsA.out, Hsn.out, Hsc.out]; exact own_same e)))
          clear RS4 RS4'
          go_wp2_with fail
          refine begin_ (fun W : World => W.cell? ⟨p, i * 2, none⟩ = some (.slice sA sn sc)) [15] (by kernel_rfl) ?_
          have hSw : (fun W : World => W.cell? ⟨p, i * 2, none⟩ = some (.slice sA sn sc)) w4.drew := e0
          simp only [List.size_toArray, List.length_cons, List.length_nil, Nat.reduceAdd, Array.replicate_succ, Array.replicate_zero, List.push_toArray, List.append_toArray, List.nil_append, List.cons_append]
          refine move_a (i := 0) (v := ?_) rfl (by kernel_rfl) (by kernel_rfl) (by kernel_rfl) (fun _ _ _ h => h) (by rfl) ?_ ?_
          rotate_left
          · (intro w; go_simp; try with_reducible rfl)
          try simp only [Act.put, List.setIfInBounds_toArray, List.set_cons_zero, List.set_cons_succ]
          refine move_a (i := 1) (v := ?_) rfl (by kernel_rfl) (by kernel_rfl) (by kernel_rfl) (fun _ _ _ h => h) (by rfl) ?_ ?_
          rotate_left
          · (intro w; go_simp; try with_reducible rfl)
          try simp only [Act.put, List.setIfInBounds_toArray, List.set_cons_zero, List.set_cons_succ]
          refine move_a (i := 2) (v := ?_) rfl (by kernel_rfl) (by kernel_rfl) (by kernel_rfl) (fun _ _ _ h => h) (by rfl) ?_ ?_
          rotate_left
          · (intro w; go_simp; try with_reducible rfl)
          try simp only [Act.put, List.setIfInBounds_toArray, List.set_cons_zero, List.set_cons_succ]
          refine move_a (i := 3) (v := ?_) rfl (by kernel_rfl) (by kernel_rfl) (by kernel_rfl) (fun _ _ _ h => h) (by rfl) ?_ ?_
          rotate_left
          · (intro w; go_simp; try with_reducible rfl)
          try simp only [Act.put, List.setIfInBounds_toArray, List.set_cons_zero, List.set_cons_succ]
          refine move_b [12, 15] [15] (i := 4) (v := ?_) rfl (by kernel_rfl) (by kernel_rfl) (by kernel_rfl) (fun _ _ _ h => h) (by kernel_rfl) (by kernel_rfl) (by kernel_rfl) (by rfl) ?_ hSw ?_
          rotate_left
          · (intro w hSw; (try dsimp only at hSw); go_simp; try with_reducible rfl)
          try simp only [Act.put, List.setIfInBounds_toArray, List.set_cons_zero, List.set_cons_succ]
          refine move_a (i := 5) (v := ?_) rfl (by kernel_rfl) (by kernel_rfl) (by kernel_rfl) (fun _ _ _ h => h) (by rfl) ?_ ?_
          rotate_left
          · (intro w; go_simp; try with_reducible rfl)
          try simp only [Act.put, List.setIfInBounds_toArray, List.set_cons_zero, List.set_cons_succ]
          refine move_a (i := 6) (v := ?_) rfl (by kernel_rfl) (by kernel_rfl) (by kernel_rfl) (fun _ _ _ h => h) (by rfl) ?_ ?_
          rotate_left
          · (intro w; go_simp; try with_reducible rfl)
          try simp only [Act.put, List.setIfInBounds_toArray, List.set_cons_zero, List.set_cons_succ]
          refine move_a (i := 7) (v := ?_) rfl (by kernel_rfl) (by kernel_rfl) (by kernel_rfl) (fun _ _ _ h => h) (by rfl) ?_ ?_
          rotate_left
          · (intro w; go_simp; try with_reducible rfl)
          try simp only [Act.put, List.setIfInBounds_toArray, List.set_cons_zero, List.set_cons_succ]
          refine move_a (i := 8) (v := ?_) rfl (by kernel_rfl) (by kernel_rfl) (by kernel_rfl) (fun _ _ _ h => h) (by rfl) ?_ ?_
          rotate_left
          · (intro w; go_simp; try with_reducible rfl)
          try simp only [Act.put, List.setIfInBounds_toArray, List.set_cons_zero, List.set_cons_succ]
          refine move_b [10, 11, 12, 15] [15] (i := 9) (v := ?_) rfl (by kernel_rfl) (by kernel_rfl) (by kernel_rfl) (fun _ _ _ h => h) (by kernel_rfl) (by kernel_rfl) (by kernel_rfl) (by rfl) ?_ hSw ?_
          rotate_left
          · (intro w hSw; (try dsimp only at hSw); go_simp; try with_reducible rfl)
          try simp only [Act.put, List.setIfInBounds_toArray, List.set_cons_zero, List.set_cons_succ]
          refine move_a (i := 10) (v := ?_) rfl (by kernel_rfl) (by kernel_rfl) (by kernel_rfl) (fun _ _ _ h => h) (by rfl) ?_ ?_
          rotate_left
          · (intro w; go_simp; try with_reducible rfl)
          try simp only [Act.put, List.setIfInBounds_toArray, List.set_cons_zero, List.set_cons_succ]
          refine move_a (i := 11) (v := ?_) rfl (by kernel_rfl) (by kernel_rfl) (by kernel_rfl) (fun _ _ _ h => h) (by rfl) ?_ ?_
          rotate_left
          · (intro w; go_simp; try with_reducible rfl)
          try simp only [Act.put, List.setIfInBounds_toArray, List.set_cons_zero, List.set_cons_succ]
          refine move_a (i := 12) (v := ?_) rfl (by kernel_rfl) (by kernel_rfl) (by kernel_rfl) (fun _ _ _ h => h) (by rfl) ?_ ?_
          rotate_left
          · (intro w; go_simp; try with_reducible rfl)
          try simp only [Act.put, List.setIfInBounds_toArray, List.set_cons_zero, List.set_cons_succ]
          refine move_a (i := 13) (v := ?_) rfl (by kernel_rfl) (by kernel_rfl) (by kernel_rfl) (fun _ _ _ h => h) (by rfl) ?_ ?_
          rotate_left
          · (intro w; go_simp; try with_reducible rfl)
          try simp only [Act.put, List.setIfInBounds_toArray, List.set_cons_zero, List.set_cons_succ]
          refine move_a (i := 14) (v := ?_) rfl (by kernel_rfl) (by kernel_rfl) (by kernel_rfl) (fun _ _ _ h => h) (by rfl) ?_ ?_
          rotate_left
          · (intro w; go_simp; try with_reducible rfl)
          try simp only [Act.put, List.setIfInBounds_toArray, List.set_cons_zero, List.set_cons_succ]
          refine move_c (i := 15) (by kernel_rfl) rfl (by rfl) (fun K hK => ?_)
          go_simp
          refine hK _ _ ?_
          clear hK K
          try simp only [Act.put, List.setIfInBounds_toArray, List.set_cons_zero, List.set_cons_succ]
          refine move_d (by kernel_rfl) ?_
          rw [Nat.mul_comm i 2]
          obtain ⟨h5, s5⟩ := HA2.out
          have HX2 := Lib.hid h5.drewd
          have SX2 := Lib.hid s5.drewd
          rw [show (⟨sA, K2, sc⟩ : Sl).val = .slice sA K2 sc from rfl] at HX2 SX2
          clear h5 s5
          go_wp2
          go_ret
          refine ⟨by rw [HA.out]; rfl, _, ?_, S3.out.trans (SX1.out.trans SX2.out)⟩
          rw [HA.out, hS.out, HG.out]
          have hfin : cutB d2 i n.toNat = putB (putB d2 (2 * i + 1) ((d2.b (2 * i + 1)).take K1)) (2 * i) ((d2.b (2 * i)).take K2) := by
            unfold cutB
            rw [HBB.out, HLS.out, HK1.out, take_K (xs := d.b (2 * i)) (q := n.toNat) (K := K2) (by rw [HLS.out, HK2.out])]
          show DAt _ _ _ _ (cutB d2 i n.toNat)
          rw [hfin]
          exact HX2.out
        · have e7 := h3.cells.2.2.2.2.2.2.2
          rw [HKK.out] at e7
          have HO := Lib.hid (off_any h3 HSM.out d.k HK.out)
          clear h3
          go_wp2_with fail
          refine HO.out.mono ?_
          rintro e w4 hret
          have HRt := Lib.hid (RetD.from S3.out hret)
          clear hret
          obtain ⟨rfl, cs4, h4, s4⟩ := HRt.out
          go_wp2
          go_ret
          refine ⟨by rw [HA.out]; rfl, cs4, ?_, s4⟩
          rw [HA.out, hS.out, HG.out]
          exact h4
      · rw [ho] at HRD HA
        have HA := Lib.hid (HA.out.trans (if_pos (by simp [ans])))
        clear ho
        go_enter Tryd.func39, Tryd.ntmps39
        go_wp2_with fail
        refine HRD.out.mono ?_
        rintro e w' ⟨rfl, rfl⟩
        simp only [ans, if_true, if_false, Bool.false_eq_true]
        go_wp2_with fail
        go_quiet (fail)
        go_wp2
        go_ret
        exact ⟨by rw [HA.out]; rfl, cs, by rw [HA.out]; exact HDR.out _, SDR.out _⟩
end Go.Proofs.YtfinaikgikifcaaDoor.diskw
/- What the disk's Read, Safe, New and Load compute. -/
namespace Go.Proofs.YtfinaikgikifcaaDoor.diskw
open Go.RowKit Go.Proofs.YtfinaikgikifcaaDoorW.PrintWords Go.Proofs.YtfinaikgikifcaaDoor.base Go.Proofs.YtfinaikgikifcaaDoor.mem Go.Proofs.YtfinaikgikifcaaDoor.keep Go.Proofs.YtfinaikgikifcaaDoor.diskp Go.Proofs.YtfinaikgikifcaaDoor.diskr Go.Proofs.YtfinaikgikifcaaDoor.ordt Go.Proofs.YtfinaikgikifcaaDoor.clone

/-- what Read answers -/
def readR (d : D) (f : Int) : List Int × Int := if rdy d f ≠ 0 then ([], rdy d f) else (fileB d f.toNat, 0)
def RetR (w : World) (xs : List Int) (r : Int) (e : Ending) (w' : World) : Prop := ∃ A n c, e = .returned (.tuple #[.slice A n c, .int .i64 r]) ∧ OwB w' w.heap.size A n c xs ∧ Below w.heap.size w w'
set_option maxHeartbeats 2000000 in
theorem read_any {w : World} {base p : Nat} {cs : Nat → Sl} {d : D} (h : DAt w base p cs d) (hs : Small d.b) (f : Int) :
    Calls Tryd.prog 48 #[.pointer (some ⟨p, 0, none⟩), .int .i64 f] w (RetR w (readR d f).1 (readR d f).2) := by
  have HRD := Lib.hid (ready_any h f)
  have HA : Hid (readR d f = if rdy d f ≠ 0 then ([], rdy d f) else (fileB d f.toNat, 0)) := Lib.hid rfl
  by_cases h0 : rdy d f = 0
  · obtain ⟨i, rfl, hi, hoff⟩ := rdy_ok h0
    have HA := Lib.hid (HA.out.trans (if_neg (fun e => e h0)))
    rw [h0] at HRD
    have htn : (i : Int).toNat = i := by omega
    rw [htn] at HA
    have hii : (i : Int) < 2 := by omega
    have e0 := h.at0 hi
    have e1 := h.at1 hi
    have RS : Hid (OwB w base (cs (2 * i)).A (cs (2 * i)).n (cs (2 * i)).c (d.b (2 * i))) := Lib.hid (h.row (2 * i) (by omega))
    have RW : Hid (OwB w base (cs (2 * i + 1)).A (cs (2 * i + 1)).n (cs (2 * i + 1)).c (d.b (2 * i + 1))) := Lib.hid (h.row (2 * i + 1) (by omega))
    have hl0 := hs (2 * i) (by omega)
    have hl1 := hs (2 * i + 1) (by omega)
    have hcS := RS.out.cap
    have hcW := RW.out.cap
    have HFB : Hid (fileB d i = d.b (2 * i) ++ d.b (2 * i + 1)) := Lib.hid rfl
    clear h hs h0 hoff htn
    generalize (cs (2 * i)).A = sA at *
    generalize (cs (2 * i)).n = sn at *
    generalize (cs (2 * i)).c = sc at *
    generalize (cs (2 * i + 1)).A = wA at *
    generalize (cs (2 * i + 1)).n = wn at *
    generalize (cs (2 * i + 1)).c = wc at *
    have RR : Hid (RdBB (w.alloc (.cells #[.slice sA sn sc, .slice wA wn wc] 22)).drew (some ⟨w.heap.size, 0, none⟩) 2 [d.b (2 * i), d.b (2 * i + 1)]) := Lib.hid ((rows2 RS.out.rd hcS RW.out.rd hcW 22).below (Below.refl _ _).drew)
    have B1 := Lib.hid ((below_alloc (Below.refl w.heap.size w) (.cells #[.slice sA sn sc, .slice wA wn wc] 22)).drew)
    have k0 : ((w.alloc (.cells #[.slice sA sn sc, .slice wA wn wc] 22)).drew).cell? ⟨p, i * 2, none⟩ = some (.slice sA sn sc) := pw_cell_below B1.out e0
    have k1 : (w.alloc (.cells #[.slice sA sn sc, .slice wA wn wc] 22)).drew.cell? ⟨p, i * 2 + 1, none⟩ = some (.slice wA wn wc) := pw_cell_below B1.out e1
    go_enter Tryd.func48, Tryd.ntmps48
    go_wp2_with fail
    refine HRD.out.mono ?_
    rintro e w' ⟨rfl, rfl⟩
    go_wp2_with fail
    go_region_held3 (fun W : World => W.cell? ⟨p, i * 2, none⟩ = some (.slice sA sn sc) ∧ W.cell? ⟨p, i * 2 + 1, none⟩ = some (.slice wA wn wc)) (first | assumption | exact ⟨e0, e1⟩ | exact ⟨by assumption, by assumption⟩) ((go_at_call 61; refine (concat_any _ _ _ _ _ RR.out (by omega)).mono ?_; rintro e w4 ⟨A4, n4, c4, rfl, ho, hb⟩; have HO4 := Lib.hid (OwB.less ho B1.out.size); have B4 := Lib.hid (B1.out.trans (hb.mono B1.out.size)); have y0 : w4.cell? ⟨p, i * 2, none⟩ = some (.slice sA sn sc) := pw_cell_below B4.out e0; have y1 : w4.cell? ⟨p, i * 2 + 1, none⟩ = some (.slice wA wn wc) := pw_cell_below B4.out e1; clear ho hb))
    go_wp2
    refine bodyPost_ret (results_tmp2 rfl _ _ _) rfl ?_
    exact ⟨A4, n4, c4, by rw [HA.out]; rfl, by rw [HA.out, HFB.out]; exact HO4.out, B4.out⟩
  · have HA := Lib.hid (HA.out.trans (if_pos h0))
    have hb : (rdy d f == 0) = false := by simp [h0]
    have hb2 : (rdy d f != 0) = true := by simp [h0]
    clear h hs h0
    generalize rdy d f = r at *
    go_enter Tryd.func48, Tryd.ntmps48
    go_wp2_with fail
    refine HRD.out.mono ?_
    rintro e w' ⟨rfl, rfl⟩
    go_wp2
    refine bodyPost_ret (results_tmp2 rfl _ _ _) rfl ?_
    exact ⟨none, 0, 0, by rw [HA.out]; rfl, by rw [HA.out]; exact OwB.nil _ _, Below.refl _ _⟩
/-- what Safe answers -/
def safeR (d : D) (f : Int) : List Int := if f < 0 ∨ 1 < f then [] else d.b (2 * f.toNat)
set_option maxHeartbeats 1000000 in
theorem safe_any {w : World} {base p : Nat} {cs : Nat → Sl} {d : D} (h : DAt w base p cs d) (hs : Small d.b) (f : Int) :
    Calls Tryd.prog 47 #[.pointer (some ⟨p, 0, none⟩), .int .i64 f] w (RetB w (safeR d f)) := by
  have HA : Hid (safeR d f = if f < 0 ∨ 1 < f then [] else d.b (2 * f.toNat)) := Lib.hid rfl
  by_cases hf : f < 0
  · have HA := Lib.hid (HA.out.trans (if_pos (.inl hf)))
    clear h hs
    go_enter Tryd.func47, Tryd.ntmps47
    go_wp2
    go_ret
    exact ⟨none, 0, 0, rfl, by rw [HA.out]; exact OwB.nil _ _, Below.refl _ _⟩
  by_cases hf1 : 1 < f
  · have HA := Lib.hid (HA.out.trans (if_pos (.inr hf1)))
    clear h hs
    go_enter Tryd.func47, Tryd.ntmps47
    go_wp2
    go_ret
    exact ⟨none, 0, 0, rfl, by rw [HA.out]; exact OwB.nil _ _, Below.refl _ _⟩
  obtain ⟨i, rfl⟩ := Int.eq_ofNat_of_zero_le (show 0 ≤ f by omega)
  have hi : i < 2 := by omega
  have HA := Lib.hid (HA.out.trans (if_neg (fun e => e.elim hf hf1)))
  have htn : (i : Int).toNat = i := by omega
  rw [htn] at HA
  have hii : (i : Int) < 2 := by omega
  have e0 := h.at0 hi
  have RS := h.row (2 * i) (by omega)
  have hl0 := hs (2 * i) (by omega)
  have HC := Lib.hid (clone_any _ _ (cs (2 * i)).c _ _ (OwB.rd RS) (by rw [← OwB.len RS]; omega))
  clear h hs RS htn
  generalize (cs (2 * i)).A = sA at *
  generalize (cs (2 * i)).n = sn at *
  generalize (cs (2 * i)).c = sc at *
  go_enter Tryd.func47, Tryd.ntmps47
  go_wp2_with fail
  refine HC.out.mono ?_
  rintro e w4 ⟨A4, n4, c4, rfl, ho, hb⟩
  have HO := Lib.hid ho
  have HB := Lib.hid hb
  clear ho hb
  go_wp2
  go_ret
  exact ⟨A4, n4, c4, rfl, by rw [HA.out]; exact HO.out, HB.out⟩
/-- a new disk -/
def RetN (w : World) (d : D) (e : Ending) (w' : World) : Prop := ∃ p cs, e = .returned (.pointer (some ⟨p, 0, none⟩)) ∧ DAt w' w.heap.size p cs d ∧ Below w.heap.size w w'
def nilC : Nat → Sl := fun _ => nilS
theorem new_at (w : World) : DAt (w.alloc (.cells #[.slice none 0 0, .slice none 0 0, .slice none 0 0, .slice none 0 0, .bool false, .int .i64 0, .int .i64 0, .int .i64 0] 62)) w.heap.size w.heap.size nilC (diskp.load [] []) := by
  refine ⟨?_, Nat.le_refl _, fun i hi => ?_, fun i hi => (by intro e; cases e), fun i j g _ _ e => (by cases e)⟩
  · show (w.heap.push _)[w.heap.size]? = _
    rw [Array.getElem?_push_size]
    rfl
  · have : (diskp.load [] []).b i = [] := by unfold diskp.load; simp
    rw [this]
    exact OwB.nil _ _
theorem new_any (w : World) : Calls Tryd.prog 17 #[] w (RetN w (diskp.load [] [])) := by
  have HN := Lib.hid (new_at w)
  have HB := Lib.hid (below_alloc (Below.refl w.heap.size w) (.cells #[.slice none 0 0, .slice none 0 0, .slice none 0 0, .slice none 0 0, .bool false, .int .i64 0, .int .i64 0, .int .i64 0] 62))
  go_enter Tryd.func17, Tryd.ntmps17
  go_wp2
  go_ret
  exact ⟨w.heap.size, nilC, rfl, HN.out, HB.out⟩
set_option maxHeartbeats 2000000 in
theorem load_any (A : Option Addr) (n c : Nat) (xs : List Int) (A' : Option Addr) (n' c' : Nat) (ys : List Int) (w : World) (hr : RdB w A n xs) (hn : n ≤ 140737488355328) (hr' : RdB w A' n' ys) (hn' : n' ≤ 140737488355328) :
    Calls Tryd.prog 10 #[.slice A n c, .slice A' n' c'] w (RetN w (diskp.load xs ys)) := by
  have HR := Lib.hid hr
  have HR' := Lib.hid hr'
  have HNW := Lib.hid (new_any w)
  clear hr hr'
  go_enter Tryd.func10, Tryd.ntmps10
  go_wp2_with fail
  refine HNW.out.mono ?_
  rintro e w1 ⟨p, cs, rfl, hd, hb⟩
  have HD := Lib.hid hd
  have HB := Lib.hid hb
  have e0 := hd.cells.1
  have e2 := hd.cells.2.2.1
  have f0 := hd.free 0
  have f2 := hd.free 2
  have C1 := Lib.hid (fun W (h : Below w.heap.size w W) => clone_any A n c xs W (HR.out.below h) hn)
  have C2 := Lib.hid (fun W (h : Below w.heap.size w W) => clone_any A' n' c' ys W (HR'.out.below h) hn')
  have B1 := Lib.hid hb.drew
  have hs1 := hb.size
  clear hd hb
  go_wp2_with fail
  refine begin_ (fun _ : World => True) [3, 5, 10, 15] (by kernel_rfl) ?_
  have hSw : (fun _ : World => True) w1 := trivial
  simp only [List.size_toArray, List.length_cons, List.length_nil, Nat.reduceAdd, Array.replicate_succ, Array.replicate_zero, List.push_toArray, List.append_toArray, List.nil_append, List.cons_append]
  refine move_a (i := 0) (v := ?_) rfl (by kernel_rfl) (by kernel_rfl) (by kernel_rfl) (fun _ _ _ h => h) (by rfl) ?_ ?_
  rotate_left
  · (intro w; go_simp; try with_reducible rfl)
  try simp only [Act.put, List.setIfInBounds_toArray, List.set_cons_zero, List.set_cons_succ]
  refine move_a (i := 1) (v := ?_) rfl (by kernel_rfl) (by kernel_rfl) (by kernel_rfl) (fun _ _ _ h => h) (by rfl) ?_ ?_
  rotate_left
  · (intro w; go_simp; try with_reducible rfl)
  try simp only [Act.put, List.setIfInBounds_toArray, List.set_cons_zero, List.set_cons_succ]
  refine move_a (i := 2) (v := ?_) rfl (by kernel_rfl) (by kernel_rfl) (by kernel_rfl) (fun _ _ _ h => h) (by rfl) ?_ ?_
  rotate_left
  · (intro w; go_simp; try with_reducible rfl)
  try simp only [Act.put, List.setIfInBounds_toArray, List.set_cons_zero, List.set_cons_succ]
  refine move_a (i := 4) (v := ?_) rfl (by kernel_rfl) (by kernel_rfl) (by kernel_rfl) (fun _ _ _ h => h) (by rfl) ?_ ?_
  rotate_left
  · (intro w; go_simp; try with_reducible rfl)
  try simp only [Act.put, List.setIfInBounds_toArray, List.set_cons_zero, List.set_cons_succ]
  refine move_a (i := 6) (v := ?_) rfl (by kernel_rfl) (by kernel_rfl) (by kernel_rfl) (fun _ _ _ h => h) (by rfl) ?_ ?_
  rotate_left
  · (intro w; go_simp; try with_reducible rfl)
  try simp only [Act.put, List.setIfInBounds_toArray, List.set_cons_zero, List.set_cons_succ]
  refine move_a (i := 7) (v := ?_) rfl (by kernel_rfl) (by kernel_rfl) (by kernel_rfl) (fun _ _ _ h => h) (by rfl) ?_ ?_
  rotate_left
  · (intro w; go_simp; try with_reducible rfl)
  try simp only [Act.put, List.setIfInBounds_toArray, List.set_cons_zero, List.set_cons_succ]
  refine move_a (i := 11) (v := ?_) rfl (by kernel_rfl) (by kernel_rfl) (by kernel_rfl) (fun _ _ _ h => h) (by rfl) ?_ ?_
  rotate_left
  · (intro w; go_simp; try with_reducible rfl)
  try simp only [Act.put, List.setIfInBounds_toArray, List.set_cons_zero, List.set_cons_succ]
  refine move_a (i := 12) (v := ?_) rfl (by kernel_rfl) (by kernel_rfl) (by kernel_rfl) (fun _ _ _ h => h) (by rfl) ?_ ?_
  rotate_left
  · (intro w; go_simp; try with_reducible rfl)
  try simp only [Act.put, List.setIfInBounds_toArray, List.set_cons_zero, List.set_cons_succ]
  refine move_c (i := 3) (by kernel_rfl) rfl (by rfl) (fun K hK => ?_)
  (go_simp; refine (C1.out _ B1.out).mono ?_; rintro e w3 ⟨A3, n3, c3, rfl, ho, hb⟩; have HO3 := Lib.hid ho; have B3 := Lib.hid hb; have BW3 := Lib.hid (B1.out.trans (hb.mono hs1)); clear ho hb)
  refine hK _ _ ?_
  clear hK K
  try simp only [Act.put, List.setIfInBounds_toArray, List.set_cons_zero, List.set_cons_succ]
  refine move_c (i := 5) (by kernel_rfl) rfl (by rfl) (fun K hK => ?_)
  (go_simp; refine (C2.out _ BW3.out).mono ?_; rintro e w4 ⟨A4, n4, c4, rfl, ho, hb⟩; have HO4 := Lib.hid ho; have B4 := Lib.hid hb; have HD4 := Lib.hid ((HD.out.drewd.below B3.out).below hb); have y0 := HD4.out.cells.1; have y2 := HD4.out.cells.2.2.1; have z0 := HD4.out.free 0; have z2 := HD4.out.free 2; clear ho hb)
  refine hK _ _ ?_
  clear hK K
  try simp only [Act.put, List.setIfInBounds_toArray, List.set_cons_zero, List.set_cons_succ]
  refine move_a (i := 8) (v := ?_) rfl (by kernel_rfl) (by kernel_rfl) (by kernel_rfl) (fun _ _ _ h => h) (by rfl) ?_ ?_
  rotate_left
  · (intro w; go_simp; try with_reducible rfl)
  try simp only [Act.put, List.setIfInBounds_toArray, List.set_cons_zero, List.set_cons_succ]
  refine move_a (i := 9) (v := ?_) rfl (by kernel_rfl) (by kernel_rfl) (by kernel_rfl) (fun _ _ _ h => h) (by rfl) ?_ ?_
  rotate_left
  · (intro w; go_simp; try with_reducible rfl)
  try simp only [Act.put, List.setIfInBounds_toArray, List.set_cons_zero, List.set_cons_succ]
  refine move_c (i := 10) (by kernel_rfl) rfl (by rfl) (fun K hK => ?_)
  go_simp
  refine hK _ _ ?_
  clear hK K
  try simp only [Act.put, List.setIfInBounds_toArray, List.set_cons_zero, List.set_cons_succ]
  refine move_a (i := 13) (v := ?_) rfl (by kernel_rfl) (by kernel_rfl) (by kernel_rfl) (fun _ _ _ h => h) (by rfl) ?_ ?_
  rotate_left
  · (intro w; go_simp; try with_reducible rfl)
  try simp only [Act.put, List.setIfInBounds_toArray, List.set_cons_zero, List.set_cons_succ]
  refine move_a (i := 14) (v := ?_) rfl (by kernel_rfl) (by kernel_rfl) (by kernel_rfl) (fun _ _ _ h => h) (by rfl) ?_ ?_
  rotate_left
  · (intro w; go_simp; try with_reducible rfl)
  try simp only [Act.put, List.setIfInBounds_toArray, List.set_cons_zero, List.set_cons_succ]
  refine move_c (i := 15) (by kernel_rfl) rfl (by rfl) (fun K hK => ?_)
  go_simp
  refine hK _ _ ?_
  clear hK K
  try simp only [Act.put, List.setIfInBounds_toArray, List.set_cons_zero, List.set_cons_succ]
  refine move_d (by kernel_rfl) ?_
  have hs3 := B3.out.size
  have hs1d : w1.heap.size = w1.drew.heap.size := rfl
  have hft := fun g (hg : Ft p cs g) => HD.out.ft hg
  have hk3 := OwB.blk HO3.out
  have hk4 := OwB.blk HO4.out
  have O3 : OwS w4 w.heap.size ⟨A3, n3, c3⟩ xs := OwB.less (HO3.out.below B4.out) (by omega)
  have O4 : OwS w4 w.heap.size ⟨A4, n4, c4⟩ ys := OwB.less HO4.out (by omega)
  have h5 := HD4.out.slotF (i := 0) (by omega) O3 (fun g e hg => by
    have h1 := hft g hg
    have h2 := hk3 g e
    omega)
  have hp4 := HD4.out.plt
  have hpw := HD.out.plt
  have hpp := HD.out.hp
  have O5 : OwS (w4.setCell ⟨p, 0, none⟩ (Sl.val ⟨A3, n3, c3⟩)) w.heap.size ⟨A4, n4, c4⟩ ys := O4.block fun g e => Below.heap_setCell _ _ _ _ (fun e2 => by
    have h2 := hk4 g e
    have e3 : g = p := e2
    omega)
  have h6 := h5.slotF (i := 2) (by omega) O5 (fun g e hg => by
    have h2 := hk4 g e
    rcases hg with h | ⟨j, hj, h⟩
    · omega
    · by_cases hj0 : j = 0
      · subst hj0
        rw [upd_same] at h
        have h3 := (hk3 g h).2
        omega
      · rw [upd_ne _ _ hj0] at h
        have h1 := hft g (.inr ⟨j, hj, h⟩)
        omega)
  have hfin : putB (putB (diskp.load [] []) 0 xs) 2 ys = diskp.load xs ys := by
    unfold putB diskp.load
    congr 1
    funext j
    unfold upd
    by_cases h2 : j = 2
    · subst h2; rfl
    · by_cases h0 : j = 0
      · subst h0; rfl
      · simp [h0, h2]
  rw [hfin] at h6
  have H6 := Lib.hid h6
  have B6 := Lib.hid (((BW3.out.trans (B4.out.mono BW3.out.size)).setCell (p := ⟨p, 0, none⟩) hpp (.slice A3 n3 c3)).setCell (p := ⟨p, 2, none⟩) hpp (.slice A4 n4 c4))
  clear h5 h6 hfin hft hk3 hk4 O3 O4 O5 y0 y2 z0 z2
  go_wp2
  go_ret
  exact ⟨p, _, rfl, H6.out, B6.out⟩
end Go.Proofs.YtfinaikgikifcaaDoor.diskw
/- What a disk's numbers stay within: plain Lean. -/
namespace Go.Proofs.YtfinaikgikifcaaDoor.diskw
open Go.RowKit Go.Proofs.YtfinaikgikifcaaDoorW.PrintWords Go.Proofs.YtfinaikgikifcaaDoor.base Go.Proofs.YtfinaikgikifcaaDoor.mem Go.Proofs.YtfinaikgikifcaaDoor.diskp Go.Proofs.YtfinaikgikifcaaDoor.diskr

def tot (b : Nat → List Int) (f : Nat) : Nat := (b (2 * f)).length + (b (2 * f + 1)).length
/-- bounds of a disk -/
structure Ok (d : D) (S N : Nat) : Prop where
  s : tot d.b 0 ≤ S ∧ tot d.b 1 ≤ S
  n : 0 ≤ d.n ∧ d.n ≤ N
  a : 0 ≤ d.a ∧ d.a ≤ 9223372036854775807
  k : -9223372036854775808 ≤ d.k ∧ d.k ≤ 9223372036854775807
section
variable {d : D} {S N : Nat}
theorem Ok.len (h : Ok d S N) (i : Nat) (hi : i < 4) : (d.b i).length ≤ S := by
  obtain ⟨h0, h1⟩ := h.s
  unfold tot at h0 h1
  match i, hi with
  | 0, _ => simp at h0; omega
  | 1, _ => simp at h0; omega
  | 2, _ => simp at h1; omega
  | 3, _ => simp at h1; omega
theorem Ok.fit (h : Ok d S N) (hS : S ≤ 70368744177664) (hN : N ≤ 4611686018427387904) : Fit d :=
  ⟨fun i hi => Nat.le_trans (h.len i hi) hS, ⟨h.n.1, by have := h.n.2; omega⟩, h.a, h.k⟩
theorem tot_off0 (k : Int) (b : Nat → List Int) : tot (offF k b 0) 0 ≤ tot b 0 ∧ tot (offF k b 0) 1 = tot b 1 := by
  unfold tot offF upd
  simp only [Nat.mul_zero, Nat.zero_add, Nat.mul_one, List.length_take]
  simp
  omega
theorem tot_off1 (k : Int) (b : Nat → List Int) : tot (offF k b 1) 1 ≤ tot b 1 ∧ tot (offF k b 1) 0 = tot b 0 := by
  unfold tot offF upd
  simp only [Nat.mul_zero, Nat.zero_add, Nat.mul_one, List.length_take]
  simp
  omega
theorem Ok.off (h : Ok d S N) (k : Int) : Ok (offD d k) S N := by
  unfold offD
  split
  · exact h
  · have h0 := tot_off0 k d.b
    have h1 := tot_off1 k (offF k d.b 0)
    refine ⟨⟨?_, ?_⟩, h.n, ⟨by show (0 : Int) ≤ 0; omega, by show (0 : Int) ≤ _; omega⟩, h.k⟩
    · show tot (offF k (offF k d.b 0) 1) 0 ≤ S
      have := h.s.1
      omega
    · show tot (offF k (offF k d.b 0) 1) 1 ≤ S
      have := h.s.2
      omega
theorem Ok.raw (h : Ok d S N) : Ok (rawD d).1 S (N + 1) := by
  have hn := h.n
  have ha := h.a
  unfold rawD
  split
  · exact ⟨h.s, ⟨by show 0 ≤ d.n + 1; omega, by show d.n + 1 ≤ _; omega⟩, h.a, h.k⟩
  · rename_i h0
    exact ⟨h.s, ⟨by show 0 ≤ d.n + 1; omega, by show d.n + 1 ≤ _; omega⟩, ⟨by show 0 ≤ d.a - 1; omega, by show d.a - 1 ≤ _; omega⟩, h.k⟩
theorem Ok.gone (h : Ok d S N) : Ok (diskp.gone d) S (N + 1) := by
  unfold diskp.gone
  split
  · exact h.raw.off _
  · exact h.raw
theorem Ok.more (h : Ok d S N) {S' N' : Nat} (hs : S ≤ S') (hn : N ≤ N') : Ok d S' N' := ⟨⟨Nat.le_trans h.s.1 hs, Nat.le_trans h.s.2 hs⟩, ⟨h.n.1, by have := h.n.2; omega⟩, h.a, h.k⟩
theorem Ok.app (h : Ok d S N) (f : Int) (ys : List Int) : Ok (appR d f ys).1 (S + ys.length) (N + 1) := by
  unfold appR
  split
  · exact h.more (by omega) (by omega)
  · rename_i h0
    obtain ⟨i, rfl, hi, _⟩ := rdy_ok (d := d) (f := f) (by simpa using h0)
    have e : (i : Int).toNat = i := by omega
    show Ok (appD d (i : Int).toNat ys) _ _
    rw [e]
    unfold appD
    refine Ok.gone ⟨?_, h.n, h.a, h.k⟩
    obtain ⟨t0, t1⟩ := h.s
    unfold tot at t0 t1 ⊢
    simp only [putB, upd]
    clear e
    rcases (show i = 0 ∨ i = 1 by omega) with rfl | rfl <;> simp at t0 t1 ⊢ <;> omega
theorem Ok.sync (h : Ok d S N) (f : Int) : Ok (syncR d f).1 S (N + 1) := by
  unfold syncR
  split
  · exact h.more (Nat.le_refl _) (by omega)
  · rename_i h0
    obtain ⟨i, rfl, hi, _⟩ := rdy_ok (d := d) (f := f) (by simpa using h0)
    have e : (i : Int).toNat = i := by omega
    show Ok (syncD d (i : Int).toNat) _ _
    rw [e]
    unfold syncD
    split
    · exact h.gone
    · have hg := h.gone
      generalize diskp.gone d = d' at hg
      refine ⟨?_, hg.n, hg.a, hg.k⟩
      obtain ⟨t0, t1⟩ := hg.s
      unfold tot at t0 t1 ⊢
      simp only [syncB, putB, upd]
      clear e
      rcases (show i = 0 ∨ i = 1 by omega) with rfl | rfl <;> simp at t0 t1 ⊢ <;> omega
theorem Ok.cut (h : Ok d S N) (f n : Int) : Ok (cutR d f n).1 S (N + 1) := by
  unfold cutR
  split
  · exact h.more (Nat.le_refl _) (by omega)
  · split
    · exact h.more (Nat.le_refl _) (by omega)
    · split
      · exact h.more (Nat.le_refl _) (by omega)
      · rename_i h0
        obtain ⟨i, rfl, hi, _⟩ := rdy_ok (d := d) (f := f) (by simpa using h0)
        have e : (i : Int).toNat = i := by omega
        show Ok (cutD d (i : Int).toNat n.toNat) _ _
        rw [e]
        unfold cutD
        split
        · exact h.gone
        · have hg := h.gone
          generalize diskp.gone d = d' at hg
          refine ⟨?_, hg.n, hg.a, hg.k⟩
          obtain ⟨t0, t1⟩ := hg.s
          unfold tot at t0 t1 ⊢
          simp only [cutB, putB, upd]
          clear e
          rcases (show i = 0 ∨ i = 1 by omega) with rfl | rfl <;> simp at t0 t1 ⊢ <;> omega
theorem Ok.arm (h : Ok d S N) {n k : Int} (hn : n ≤ 9223372036854775807) (hk : -9223372036854775808 ≤ k ∧ k ≤ 9223372036854775807) : Ok (armD d n k) S N := ⟨h.s, h.n, ⟨by show 0 ≤ max n 0; omega, by show max n 0 ≤ _; omega⟩, hk⟩
theorem Ok.on (h : Ok d S N) : Ok (onD d) S N := ⟨h.s, h.n, h.a, h.k⟩
theorem Ok.load (a b : List Int) : Ok (diskp.load a b) (a.length + b.length) 0 := by
  refine ⟨?_, ⟨by show (0 : Int) ≤ 0; omega, by show (0 : Int) ≤ 0; omega⟩, ⟨by show (0 : Int) ≤ 0; omega, by show (0 : Int) ≤ _; omega⟩, ⟨by show _ ≤ (0 : Int); omega, by show (0 : Int) ≤ _; omega⟩⟩
  unfold tot diskp.load
  simp
/-- what a call of a script does -/
def doR (d : D) (kd f n k : Int) (ys : List Int) : D × List Int × Int :=
  if kd = 0 then ((appR d f ys).1, [], (appR d f ys).2) else if kd = 1 then ((syncR d f).1, [], (syncR d f).2) else if kd = 2 then ((cutR d f n).1, [], (cutR d f n).2)
  else if kd = 3 then (armD d n k, [], 0) else if kd = 4 then (offD d k, [], 0) else if kd = 5 then (onD d, [], 0) else if kd = 6 then (d, (readR d f).1, (readR d f).2) else (d, [], 0)
theorem Ok.do_ (h : Ok d S N) (kd f : Int) {n k : Int} (ys : List Int) (hn : n ≤ 9223372036854775807) (hk : -9223372036854775808 ≤ k ∧ k ≤ 9223372036854775807) : Ok (doR d kd f n k ys).1 (S + ys.length) (N + 1) := by
  unfold doR
  split
  · exact h.app f ys
  split
  · exact (h.sync f).more (by omega) (by omega)
  split
  · exact (h.cut f n).more (by omega) (by omega)
  split
  · exact (h.arm hn hk).more (by omega) (by omega)
  split
  · exact (h.off k).more (by omega) (by omega)
  split
  · exact h.on.more (by omega) (by omega)
  split
  · exact h.more (by omega) (by omega)
  · exact h.more (by omega) (by omega)
end
end Go.Proofs.YtfinaikgikifcaaDoor.diskw
