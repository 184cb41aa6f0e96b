/- What the disk's Off computes. -/
import Derived.Test.YtbmdglbhmianjaaDiskWalk
import Derived.Test.YtbmdglbhmianjaaClone
import Derived.Test.YtbmdglbhmianjaaOrdT
set_option linter.unusedVariables false
set_option linter.unusedSimpArgs false
namespace Go.Proofs.Ytbmdglbhmianjaa.diskw
open Go.RowKit Go.Proofs.YtbmdglbhmianjaaW.PrintWords Go.Proofs.Ytbmdglbhmianjaa.base Go.Proofs.Ytbmdglbhmianjaa.mem Go.Proofs.Ytbmdglbhmianjaa.keep Go.Proofs.Ytbmdglbhmianjaa.diskp Go.Proofs.Ytbmdglbhmianjaa.diskr Go.Proofs.Ytbmdglbhmianjaa.ordt

def Small (b : Nat → List Int) : Prop := ∀ i, i < 4 → (b i).length ≤ 17592186044416
def offN (k : Int) (b : Nat → List Int) : Nat → Nat → List Int
  | 0 => b
  | 1 => offF k b 0
  | _ => offF k (offF k b 0) 1
/-- the two slots of a file, the waiting bytes gone -/
theorem two_slots {w w1 : World} {base p : Nat} {cs : Nat → Sl} {d : D} (h : DAt w base p cs d) {f : Nat} (hf : f < 2) {A : Option Addr} {n c : Nat} {ys : List Int} (hg : w.grownBy w1 (cs (2 * f)).own) (hx : OwB w1 base A n c ys)
    (ho : ∀ g, (Value.slice A n c).ownBlock = some g → (cs (2 * f)).own = some g ∨ w.heap.size ≤ g) :
    DAt ((w1.setCell ⟨p, 2 * f, none⟩ (.slice A n c)).setCell ⟨p, 2 * f + 1, none⟩ (.slice none 0 0)) base p (upd (upd cs (2 * f) ⟨A, n, c⟩) (2 * f + 1) nilS) (putB (putB d (2 * f) ys) (2 * f + 1) []) ∧
      DStep w base p cs ((w1.setCell ⟨p, 2 * f, none⟩ (.slice A n c)).setCell ⟨p, 2 * f + 1, none⟩ (.slice none 0 0)) (upd (upd cs (2 * f) ⟨A, n, c⟩) (2 * f + 1) nilS) := by
  obtain ⟨h1, s1⟩ := h.slot (i := 2 * f) (x := ⟨A, n, c⟩) (by omega) hg hx ho
  obtain ⟨h2, s2⟩ := h1.slot (i := 2 * f + 1) (x := nilS) (ys := []) (by omega) (grownBy_self _ _) (OwB.nil _ _) (fun g e => by cases e)
  exact ⟨h2, s1.trans s2⟩
theorem stay_min (k : Int) (xs : List Int) : (if (xs.length : Int) < (if k < 0 then 0 else k) then (xs.length : Int) else (if k < 0 then 0 else k)) = (stay k xs : Int) := by
  unfold stay
  split <;> split at * <;> omega
theorem stay_le (k : Int) (xs : List Int) : stay k xs ≤ xs.length := by unfold stay; omega
set_option maxHeartbeats 16000000 in
theorem off_any {w : World} {base p : Nat} {cs : Nat → Sl} {d : D} (h : DAt w base p cs d) (hs : Small d.b) (k : Int) (hk : -9223372036854775808 ≤ k ∧ k ≤ 9223372036854775807) :
    Calls Try.prog 23 #[.pointer (some ⟨p, 0, none⟩), .int .i64 k] w (RetD w base p cs (.tuple #[]) (offD d k)) := by
  have e4 := h.cells.2.2.2.2.1
  have H := Lib.hid h
  have HS := Lib.hid hs
  have HOD : Hid (offD d k = if d.off then d else ⟨offF k (offF k d.b 0) 1, true, d.n, 0, d.k⟩) := Lib.hid rfl
  clear h hs hk
  cases ho : d.off
  · rw [ho] at e4 HOD
    have HOFF := Lib.hid ho
    clear ho
    go_enter Try.func23, Try.ntmps23
    go_wp2
    clear e4
    go_loopw [14] (fun li wr => ∃ (i : Nat) (cr : Nat → Sl), i ≤ 2 ∧ li = .int .i64 i ∧ Aside0 (DAt wr base p cr ⟨offN k d.b i, d.off, d.n, d.a, d.k⟩) ∧ Aside0 (DStep w base p cs wr cr)) (fun li _ => 2 - (intOf li).toNat)
    case atStart => exact ⟨0, cs, by omega, rfl, ⟨H.out⟩, ⟨DStep.refl _ _ _ _⟩⟩
    case round =>
      obtain ⟨i, cr, hi, rfl, HD, HST⟩ := hrel
      by_cases hlt : i < 2
      · obtain ⟨bb, hbb⟩ : ∃ bb, offN k d.b i = bb := ⟨_, rfl⟩
        have HBB := Lib.hid hbb
        clear hbb
        rw [HBB.out] at HD
        have HN : Hid (offN k d.b (i + 1) = upd (upd bb (2 * i) (bb (2 * i) ++ (bb (2 * i + 1)).take (stay k (bb (2 * i + 1))))) (2 * i + 1) []) := Lib.hid (by
          rw [← HBB.out]
          match i, hlt with
          | 0, _ => rfl
          | 1, _ => rfl)
        have e0 : wr.cell? ⟨p, i * 2, none⟩ = some (.slice (cr (2 * i)).A (cr (2 * i)).n (cr (2 * i)).c) := by
          rw [Nat.mul_comm i 2]
          refine HD.out.cell (2 * i) _ ?_
          match i, hlt with
          | 0, _ => rfl
          | 1, _ => rfl
        have e1 : wr.cell? ⟨p, i * 2 + 1, none⟩ = some (.slice (cr (2 * i + 1)).A (cr (2 * i + 1)).n (cr (2 * i + 1)).c) := by
          rw [Nat.mul_comm i 2]
          refine HD.out.cell (2 * i + 1) _ ?_
          match i, hlt with
          | 0, _ => rfl
          | 1, _ => rfl
        have f0 := HD.out.free (i * 2)
        have f1 := HD.out.free (i * 2 + 1)
        have RS : Hid (OwB wr base (cr (2 * i)).A (cr (2 * i)).n (cr (2 * i)).c (bb (2 * i))) := Lib.hid (HD.out.row (2 * i) (by omega))
        have RW : Hid (OwB wr base (cr (2 * i + 1)).A (cr (2 * i + 1)).n (cr (2 * i + 1)).c (bb (2 * i + 1))) := Lib.hid (HD.out.row (2 * i + 1) (by omega))
        have hbs := HD.out.base_le
        have hnp : (cr (2 * i)).own ≠ some p := HD.out.np (2 * i) (by omega)
        have hpl := HD.out.plt
        have HT := Lib.hid (fun A n c ys w1 hg hx ho => two_slots HD.out (f := i) hlt (A := A) (n := n) (c := c) (ys := ys) (w1 := w1) hg hx ho)
        have hl : (bb (2 * i)).length ≤ 17592186044416 ∧ (bb (2 * i + 1)).length ≤ 17592186044416 := by
          rw [← HBB.out]
          match i, hlt with
          | 0, _ => exact ⟨HS.out 0 (by omega), HS.out 1 (by omega)⟩
          | 1, _ => exact ⟨HS.out 2 (by omega), HS.out 3 (by omega)⟩
        have l0 : (cr (2 * i)).n ≤ 17592186044416 := by rw [← RS.out.len]; exact hl.1
        have l1 : (cr (2 * i + 1)).n ≤ 17592186044416 := by rw [← RW.out.len]; exact hl.2
        have hcap := RW.out.cap
        have mx := stay_min k (bb (2 * i + 1))
        have hml := stay_le k (bb (2 * i + 1))
        rw [RW.out.len] at mx hml
        have HNP := Lib.hid hnp
        have HOWN : Hid ((cr (2 * i)).own = (Value.slice (cr (2 * i)).A (cr (2 * i)).n (cr (2 * i)).c).ownBlock) := Lib.hid rfl
        generalize stay k (bb (2 * i + 1)) = K at mx hml HN
        have HR := Lib.hid (RW.out.rd.take K hml)
        clear hnp hl
        generalize (cr (2 * i)).A = sA at *
        generalize (cr (2 * i)).n = sn at *
        generalize (cr (2 * i)).c = sc at *
        generalize (cr (2 * i + 1)).A = wA at *
        generalize (cr (2 * i + 1)).n = wn at *
        generalize (cr (2 * i + 1)).c = wc at *
        have hKc : (K : Int) ≤ (wc : Int) := by omega
        have hK0 : (0 : Int) ≤ (K : Int) := by omega
        have hii : (i : Int) < 2 := by omega
        clear hml
        go_wp2_with fail
        refine begin_ (fun W : World => W.cell? ⟨p, i * 2, none⟩ = some (.slice sA sn sc) ∧ W.cell? ⟨p, i * 2 + 1, none⟩ = some (.slice wA wn wc)) [19, 22, 25] (by kernel_rfl) ?_
        have hSw : (fun W : World => W.cell? ⟨p, i * 2, none⟩ = some (.slice sA sn sc) ∧ W.cell? ⟨p, i * 2 + 1, none⟩ = some (.slice wA wn wc)) wr.drew := ⟨e0, e1⟩
        simp only [List.size_toArray, List.length_cons, List.length_nil, Nat.reduceAdd, Array.replicate_succ, Array.replicate_zero, List.push_toArray, List.append_toArray, List.nil_append, List.cons_append]
        refine move_a (i := 0) (v := ?_) rfl (by kernel_rfl) (by kernel_rfl) (by kernel_rfl) (fun _ _ _ h => h) (by rfl) ?_ ?_
        rotate_left
        · (intro w; go_simp; try with_reducible rfl)
        try simp only [Act.put, List.setIfInBounds_toArray, List.set_cons_zero, List.set_cons_succ]
        refine move_a (i := 1) (v := ?_) rfl (by kernel_rfl) (by kernel_rfl) (by kernel_rfl) (fun _ _ _ h => h) (by rfl) ?_ ?_
        rotate_left
        · (intro w; go_simp; try with_reducible rfl)
        try simp only [Act.put, List.setIfInBounds_toArray, List.set_cons_zero, List.set_cons_succ]
        refine move_a (i := 2) (v := ?_) rfl (by kernel_rfl) (by kernel_rfl) (by kernel_rfl) (fun _ _ _ h => h) (by rfl) ?_ ?_
        rotate_left
        · (intro w; go_simp; try with_reducible rfl)
        try simp only [Act.put, List.setIfInBounds_toArray, List.set_cons_zero, List.set_cons_succ]
        refine move_a (i := 3) (v := ?_) rfl (by kernel_rfl) (by kernel_rfl) (by kernel_rfl) (fun _ _ _ h => h) (by rfl) ?_ ?_
        rotate_left
        · (intro w; go_simp; try with_reducible rfl)
        try simp only [Act.put, List.setIfInBounds_toArray, List.set_cons_zero, List.set_cons_succ]
        refine move_a (i := 4) (v := ?_) rfl (by kernel_rfl) (by kernel_rfl) (by kernel_rfl) (fun _ _ _ h => h) (by rfl) ?_ ?_
        rotate_left
        · (intro w; go_simp; try with_reducible rfl)
        try simp only [Act.put, List.setIfInBounds_toArray, List.set_cons_zero, List.set_cons_succ]
        refine move_b [19, 22, 25] [19, 22, 25] (i := 5) (v := ?_) rfl (by kernel_rfl) (by kernel_rfl) (by kernel_rfl) (fun _ _ _ h => h) (by kernel_rfl) (by kernel_rfl) (by kernel_rfl) (by rfl) ?_ hSw ?_
        rotate_left
        · (intro w hSw; (try dsimp only at hSw); go_simp; try with_reducible rfl)
        try simp only [Act.put, List.setIfInBounds_toArray, List.set_cons_zero, List.set_cons_succ]
        refine move_a (i := 6) (v := ?_) rfl (by kernel_rfl) (by kernel_rfl) (by kernel_rfl) (fun _ _ _ h => h) (by rfl) ?_ ?_
        rotate_left
        · (intro w; go_simp; try with_reducible rfl)
        try simp only [Act.put, List.setIfInBounds_toArray, List.set_cons_zero, List.set_cons_succ]
        refine move_a (i := 7) (v := ?_) rfl (by kernel_rfl) (by kernel_rfl) (by kernel_rfl) (fun _ _ _ h => h) (by rfl) ?_ ?_
        rotate_left
        · (intro w; go_simp; try with_reducible rfl)
        try simp only [Act.put, List.setIfInBounds_toArray, List.set_cons_zero, List.set_cons_succ]
        refine move_a (i := 8) (v := ?_) rfl (by kernel_rfl) (by kernel_rfl) (by kernel_rfl) (fun _ _ _ h => h) (by rfl) ?_ ?_
        rotate_left
        · (intro w; go_simp; try with_reducible rfl)
        try simp only [Act.put, List.setIfInBounds_toArray, List.set_cons_zero, List.set_cons_succ]
        refine move_b [18, 19, 22, 25] [19, 22, 25] (i := 9) (v := ?_) rfl (by kernel_rfl) (by kernel_rfl) (by kernel_rfl) (fun _ _ _ h => h) (by kernel_rfl) (by kernel_rfl) (by kernel_rfl) (by rfl) ?_ hSw ?_
        rotate_left
        · (intro w hSw; (try dsimp only at hSw); go_simp; try with_reducible rfl)
        try simp only [Act.put, List.setIfInBounds_toArray, List.set_cons_zero, List.set_cons_succ]
        refine move_a (i := 10) (v := ?_) rfl (by kernel_rfl) (by kernel_rfl) (by kernel_rfl) (fun _ _ _ h => h) (by rfl) ?_ ?_
        rotate_left
        · (intro w; go_simp; try with_reducible rfl)
        try simp only [Act.put, List.setIfInBounds_toArray, List.set_cons_zero, List.set_cons_succ]
        refine move_a (i := 11) (v := ?_) rfl (by kernel_rfl) (by kernel_rfl) (by kernel_rfl) (fun _ _ _ h => h) (by rfl) ?_ ?_
        rotate_left
        · (intro w; go_simp; try with_reducible rfl)
        try simp only [Act.put, List.setIfInBounds_toArray, List.set_cons_zero, List.set_cons_succ]
        refine move_a (i := 12) (v := ?_) rfl (by kernel_rfl) (by kernel_rfl) (by kernel_rfl) (fun _ _ _ h => h) (by rfl) ?_ ?_
        rotate_left
        · (intro w; go_simp; try with_reducible rfl)
        try simp only [Act.put, List.setIfInBounds_toArray, List.set_cons_zero, List.set_cons_succ]
        refine move_a (i := 13) (v := ?_) rfl (by kernel_rfl) (by kernel_rfl) (by kernel_rfl) (fun _ _ _ h => h) (by rfl) ?_ ?_
        rotate_left
        · (intro w; go_simp; try with_reducible rfl)
        try simp only [Act.put, List.setIfInBounds_toArray, List.set_cons_zero, List.set_cons_succ]
        refine move_a (i := 14) (v := ?_) rfl (by kernel_rfl) (by kernel_rfl) (by kernel_rfl) (fun _ _ _ h => h) (by rfl) ?_ ?_
        rotate_left
        · (intro w; go_simp; try with_reducible rfl)
        try simp only [Act.put, List.setIfInBounds_toArray, List.set_cons_zero, List.set_cons_succ]
        refine move_b [16, 17, 18, 19, 22, 25] [19, 22, 25] (i := 15) (v := ?_) rfl (by kernel_rfl) (by kernel_rfl) (by kernel_rfl) (fun _ _ _ h => h) (by kernel_rfl) (by kernel_rfl) (by kernel_rfl) (by rfl) ?_ hSw ?_
        rotate_left
        · (intro w hSw; (try dsimp only at hSw); go_simp; try with_reducible rfl)
        try simp only [Act.put, List.setIfInBounds_toArray, List.set_cons_zero, List.set_cons_succ]
        refine move_a (i := 16) (v := ?_) rfl (by kernel_rfl) (by kernel_rfl) (by kernel_rfl) (fun _ _ _ h => h) (by rfl) ?_ ?_
        rotate_left
        · (intro w; go_simp; try with_reducible rfl)
        try simp only [Act.put, List.setIfInBounds_toArray, List.set_cons_zero, List.set_cons_succ]
        refine move_a (i := 17) (v := ?_) rfl (by kernel_rfl) (by kernel_rfl) (by kernel_rfl) (fun _ _ _ h => h) (by rfl) ?_ ?_
        rotate_left
        · (intro w; go_simp; try with_reducible rfl)
        try simp only [Act.put, List.setIfInBounds_toArray, List.set_cons_zero, List.set_cons_succ]
        refine move_a (i := 18) (v := ?_) rfl (by kernel_rfl) (by kernel_rfl) (by kernel_rfl) (fun _ _ _ h => h) (by rfl) ?_ ?_
        rotate_left
        · (intro w; go_simp; try with_reducible rfl)
        try simp only [Act.put, List.setIfInBounds_toArray, List.set_cons_zero, List.set_cons_succ]
        refine move_c (i := 19) (by kernel_rfl) rfl (by rfl) (fun K hK => ?_)
        (refine stepAppH rfl (.tmp 27) (.tmp 40) rfl rfl rfl (RS.out.below (Below.refl _ _).drew) (HR.out.below (Below.refl _ _).drew) hbs (by omega) ?_; intro A1 n1 c1 w1 ho hg hob; have HO := Lib.hid ho; have HG := Lib.hid hg; have HOB := Lib.hid hob; have hpb : w1.heap[p]? = wr.heap[p]? := hg.block p hpl (fun e => HNP.out (HOWN.out.trans e.symm)); have y0 : w1.cell? ⟨p, i * 2, none⟩ = some (.slice sA sn sc) := (World.cell?_of_block hpb).trans e0; have y1 : w1.cell? ⟨p, i * 2 + 1, none⟩ = some (.slice wA wn wc) := (World.cell?_of_block hpb).trans e1; have z0 : w1.frozen? ⟨p, i * 2, none⟩ = false := (World.frozen?_of_block hpb).trans f0; have z1 : w1.frozen? ⟨p, i * 2 + 1, none⟩ = false := (World.frozen?_of_block hpb).trans f1; clear ho hg hob hpb)
        refine hK _ _ ?_
        clear hK K
        try simp only [Act.put, List.setIfInBounds_toArray, List.set_cons_zero, List.set_cons_succ]
        refine move_a (i := 20) (v := ?_) rfl (by kernel_rfl) (by kernel_rfl) (by kernel_rfl) (fun _ _ _ h => h) (by rfl) ?_ ?_
        rotate_left
        · (intro w; go_simp; try with_reducible rfl)
        try simp only [Act.put, List.setIfInBounds_toArray, List.set_cons_zero, List.set_cons_succ]
        refine move_a (i := 21) (v := ?_) rfl (by kernel_rfl) (by kernel_rfl) (by kernel_rfl) (fun _ _ _ h => h) (by rfl) ?_ ?_
        rotate_left
        · (intro w; go_simp; try with_reducible rfl)
        try simp only [Act.put, List.setIfInBounds_toArray, List.set_cons_zero, List.set_cons_succ]
        refine move_c (i := 22) (by kernel_rfl) rfl (by rfl) (fun K hK => ?_)
        go_simp
        refine hK _ _ ?_
        clear hK K
        try simp only [Act.put, List.setIfInBounds_toArray, List.set_cons_zero, List.set_cons_succ]
        refine move_a (i := 23) (v := ?_) rfl (by kernel_rfl) (by kernel_rfl) (by kernel_rfl) (fun _ _ _ h => h) (by rfl) ?_ ?_
        rotate_left
        · (intro w; go_simp; try with_reducible rfl)
        try simp only [Act.put, List.setIfInBounds_toArray, List.set_cons_zero, List.set_cons_succ]
        refine move_a (i := 24) (v := ?_) rfl (by kernel_rfl) (by kernel_rfl) (by kernel_rfl) (fun _ _ _ h => h) (by rfl) ?_ ?_
        rotate_left
        · (intro w; go_simp; try with_reducible rfl)
        try simp only [Act.put, List.setIfInBounds_toArray, List.set_cons_zero, List.set_cons_succ]
        refine move_c (i := 25) (by kernel_rfl) rfl (by rfl) (fun K hK => ?_)
        go_simp
        refine hK _ _ ?_
        clear hK K
        try simp only [Act.put, List.setIfInBounds_toArray, List.set_cons_zero, List.set_cons_succ]
        refine move_d (by kernel_rfl) ?_
        have HF := Lib.hid (HT.out A1 n1 c1 _ w1 (by rw [HOWN.out]; exact grownBy_undrew HG.out) HO.out (fun g e => by rw [HOWN.out]; exact HOB.out g e))
        rw [Nat.mul_comm i 2]
        go_wp2
        go_roundw
        case rel => exact ⟨i + 1, _, by omega, by go_num, ⟨by have := HF.out.1; unfold putB at this; rw [HN.out]; exact this⟩, ⟨HST.out.trans HF.out.2⟩⟩
        case measure => simp [intOf]; omega
      · obtain rfl : i = 2 := by omega
        obtain ⟨_, _, _, _, e4, _, e6, _⟩ := HD.out.cells
        obtain ⟨_, _, _, _, f4, _, f6, _⟩ := HD.out.frees
        have h4 := HD.out.scal 4 (.bool true) (d' := ⟨offN k d.b 2, true, d.n, d.a, d.k⟩) rfl rfl
        have S4 := HST.out.trans (DStep.store HD.out 4 (.bool true))
        have H6 := Lib.hid (h4.scal 6 (.int .i64 0) (d' := ⟨offN k d.b 2, true, d.n, 0, d.k⟩) rfl rfl)
        have S6 := Lib.hid (S4.trans (DStep.store h4 6 (.int .i64 0)))
        clear h4 S4
        go_wp2
        refine bodyPost_end (results_none rfl _ _ _) rfl ?_
        exact ⟨rfl, cr, by rw [HOD.out]; exact H6.out, S6.out⟩
  · rw [ho] at e4 HOD
    have HOD := Lib.hid (HOD.out.trans (if_pos rfl))
    clear ho
    go_enter Try.func23, Try.ntmps23
    go_wp2
    refine bodyPost_ret (results_none rfl _ _ _) rfl ?_
    exact ⟨rfl, cs, by rw [HOD.out]; exact H.out, DStep.refl _ _ _ _⟩
end Go.Proofs.Ytbmdglbhmianjaa.diskw
