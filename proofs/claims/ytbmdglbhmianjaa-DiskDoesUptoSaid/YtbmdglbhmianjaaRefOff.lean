/- The document's disk: Off. -/
import Derived.Test.YtbmdglbhmianjaaRefAll
set_option linter.unusedVariables false
set_option linter.unusedSimpArgs false
namespace Go.Proofs.Ytbmdglbhmianjaa.refw
open Go.RowKit Go.Proofs.YtbmdglbhmianjaaW.PrintWords Go.Proofs.Ytbmdglbhmianjaa.base Go.Proofs.Ytbmdglbhmianjaa.mem Go.Proofs.Ytbmdglbhmianjaa.keep Go.Proofs.Ytbmdglbhmianjaa.diskp Go.Proofs.Ytbmdglbhmianjaa.diskr Go.Proofs.Ytbmdglbhmianjaa.refr Go.Proofs.Ytbmdglbhmianjaa.ordt Go.Proofs.Ytbmdglbhmianjaa.clone Go.Proofs.Ytbmdglbhmianjaa.diskw

theorem take_one (xs : List Int) (j : Nat) (h : j < xs.length) : xs.take (j + 1) = xs.take j ++ [xs.getD j 0] := by
  rw [List.take_add_one, List.getD_eq_getElem?_getD, List.getElem?_eq_getElem h]; rfl
theorem upd_upd {α : Type} (f : Nat → α) (i : Nat) (x y : α) : upd (upd f i x) i y = upd f i y := by
  funext j
  unfold upd
  split <;> rfl
theorem grownBy_from {w w1 : World} {o : Obj} {row : Option Nat} (h : (w.drew.alloc o).grownBy w1 row) : w.grownBy w1 row :=
  ⟨h.os, h.tape, h.output, Nat.le_trans ((Below.refl w.heap.size w).drew.alloc (Nat.le_refl _) o).size h.size, fun k hk hne => (h.block k (Nat.lt_of_lt_of_le hk ((Below.refl w.heap.size w).drew.alloc (Nat.le_refl _) o).size) hne).trans (((Below.refl w.heap.size w).drew.alloc (Nat.le_refl _) o).block k hk)⟩
set_option maxHeartbeats 16000000 in
theorem roff_any {w : World} {base p : Nat} {cs : Nat → Sl} {d : D} (h : RAt w base p cs d) (hs : Small d.b) (k : Int) :
    Calls Try.prog 34 #[.pointer (some ⟨p, 0, none⟩), .int .i64 k] w (RetF w base p cs (.tuple #[]) (offD d k)) := by
  have e4 := h.cells.2.2.2.2.1
  have H := Lib.hid h
  have HS := Lib.hid hs
  have HOD : Hid (offD d k = if d.off then d else ⟨offF k (offF k d.b 0) 1, true, d.n, 0, d.k⟩) := Lib.hid rfl
  clear h hs
  cases ho : d.off
  · rw [ho] at e4 HOD
    simp only [Bool.not_false] at e4
    have HOFF := Lib.hid ho
    clear ho
    go_enter Try.func34, Try.ntmps34
    go_wp2
    clear e4
    go_loopw [4] (fun li wr => ∃ (i : Nat) (cr : Nat → Sl), i ≤ 2 ∧ li = .int .i64 i ∧ Aside0 (RAt wr base p cr ⟨offN k d.b i, d.off, d.n, d.a, d.k⟩) ∧ Aside0 (DStep w base p cs wr cr)) (fun li _ => 2 - (intOf li).toNat)
    case atStart => exact ⟨0, cs, by omega, rfl, ⟨H.out⟩, ⟨DStep.refl _ _ _ _⟩⟩
    case round =>
      obtain ⟨i, cr, hi, rfl, HD, HST⟩ := hrel
      rcases (show i = 0 ∨ i = 1 ∨ i = 2 by omega) with rfl | rfl | rfl
      · obtain ⟨bb, hbb⟩ : ∃ bb, offN k d.b 0 = bb := ⟨_, rfl⟩
        have HBB := Lib.hid hbb
        have hsb : (bb 0).length ≤ 17592186044416 ∧ (bb 1).length ≤ 17592186044416 := by
          rw [← hbb]
          exact ⟨HS.out 0 (by omega), HS.out 1 (by omega)⟩
        clear hbb
        rw [HBB.out] at HD
        have HN : Hid (offN k d.b (0 + 1) = upd (upd bb 0 (bb 0 ++ (bb 1).take (stay k (bb 1)))) 1 []) := Lib.hid (by
          rw [← HBB.out]
          rfl)
        have hkl := stay_le k (bb 1)
        have hkd : stay k (bb 1) = (min (max k 0) ((bb 1).length : Int)).toNat := rfl
        obtain ⟨L, hL⟩ : ∃ L, (bb 1).length = L := ⟨_, rfl⟩
        rw [hL] at hkl hkd hsb
        have HLL := Lib.hid hL
        clear hL
        generalize stay k (bb 1) = K at hkl hkd HN
        obtain ⟨hs0, hs1⟩ := hsb
        have HJK : Hid (∀ j : Nat, j < K → (j : Int) < k) := Lib.hid (fun j h => by omega)
        have HJN : Hid (K < L → ¬ (K : Int) < k) := Lib.hid (fun h => by omega)
        clear hkd
        go_wp2
        go_loopw [5] (fun lj w2 => ∃ (j : Nat) (cj : Nat → Sl), j ≤ K ∧ lj = .int .i64 j ∧ Aside0 (RAt w2 base p cj ⟨upd bb 0 (bb 0 ++ (bb 1).take j), d.off, d.n, d.a, d.k⟩) ∧ Aside0 (DStep w base p cs w2 cj)) (fun lj _ => K - (intOf lj).toNat)
        case atStart => exact ⟨0, cr, by omega, rfl, ⟨by
          have e : upd bb 0 (bb 0 ++ (bb 1).take 0) = bb := by
            funext q
            unfold upd
            split
            · rename_i h; subst h; simp
            · rfl
          rw [e]
          exact HD.out⟩, ⟨HST.out⟩⟩
        case round =>
          rename World => w2
          obtain ⟨j, cj, hj, rfl, HJ, HSJ⟩ := hrel
          obtain ⟨c0, c2, c1, c3, _, _, _, _⟩ := HJ.out.cells
          have e0 := c0
          have e1 := c2
          clear c0 c1 c2 c3
          have f0 := HJ.out.free 0
          have f1 := HJ.out.free 2
          have RS : Hid (OwF w2 base (cj 0) (bb 0 ++ (bb 1).take j)) := Lib.hid (HJ.out.row 0 (by omega))
          have RW : Hid (OwF w2 base (cj 1) (bb 1)) := Lib.hid (HJ.out.row 1 (by omega))
          have hwl : (cj 1).n = L := by rw [← RW.out.len]; exact HLL.out
          have hsl : (cj 0).n ≤ 35184372088832 := by
            have := RS.out.len
            rw [List.length_append, List.length_take, HLL.out] at this
            omega
          have hnp : (cj 0).own ≠ some p := HJ.out.np 0 (by omega)
          have HSLOT := Lib.hid (fun x ys w3 hg hx ho => HJ.out.slot (w1 := w3) (i := 0) (x := x) (ys := ys) (by omega) hg hx ho)
          have HSN := Lib.hid (HJ.out.slot (w1 := w2) (i := 1) (x := nilS) (ys := []) (by omega) (grownBy_self _ _) (OwF.of (OwB.nil _ _)) (fun g e => by cases e))
          have HOWN : Hid ((cj 0).own = (Value.slice (cj 0).A (cj 0).n (cj 0).c).ownBlock) := Lib.hid rfl
          have HNP := Lib.hid hnp
          have hbs := HJ.out.base_le
          have hpl := HJ.out.plt
          clear hnp
          obtain ⟨sA, hsA⟩ : ∃ x, (cj 0).A = x := ⟨_, rfl⟩
          obtain ⟨sn, hsn⟩ : ∃ x, (cj 0).n = x := ⟨_, rfl⟩
          obtain ⟨sc, hsc⟩ : ∃ x, (cj 0).c = x := ⟨_, rfl⟩
          obtain ⟨wA, hwA⟩ : ∃ x, (cj 1).A = x := ⟨_, rfl⟩
          obtain ⟨wn, hwn⟩ : ∃ x, (cj 1).n = x := ⟨_, rfl⟩
          obtain ⟨wc, hwc⟩ : ∃ x, (cj 1).c = x := ⟨_, rfl⟩
          have HRS : Hid (OwF w2 base ⟨sA, sn, sc⟩ (bb 0 ++ (bb 1).take j)) := Lib.hid (by rw [← hsA, ← hsn, ← hsc]; exact RS.out)
          have HRW : Hid (OwF w2 base ⟨wA, wn, wc⟩ (bb 1)) := Lib.hid (by rw [← hwA, ← hwn, ← hwc]; exact RW.out)
          have RS := HRS
          have RW := HRW
          rw [hsA, hsn, hsc] at e0
          rw [hwA, hwn, hwc] at e1
          rw [hsA, hsn, hsc] at HOWN
          rw [hsn] at hsl
          rw [hwn] at hwl
          clear hsA hsn hsc hwA hwn hwc HRS HRW
          have hwla : wn ≤ L := Nat.le_of_eq hwl
          have hwlb : L ≤ wn := Nat.le_of_eq hwl.symm
          clear hwl
          by_cases hlt : j < K
          · have hj1 : j < wn := by omega
            have hj1i : (j : Int) < (wn : Int) := by omega
            obtain ⟨ad, had, hcell⟩ : ∃ ad, wA = some ad ∧ w2.cell? (ad.add j) = some (.int .u8 ((bb 1).getD j 0)) := RW.out.rd.at_ j hj1
            obtain ⟨gw, hgw⟩ : ∃ gw, wA = some ⟨gw, 0, none⟩ := by
              obtain ⟨q, hq, _⟩ := RW.out
              obtain ⟨g, e, _⟩ := OwB.form hq (show 0 < wn by omega)
              exact ⟨g, e⟩
            subst hgw
            obtain rfl : (⟨gw, 0, none⟩ : Addr) = ad := Option.some.inj had
            have hz : By [(bb 1).getD j 0] := By_of _ (fun y hy => by
              rw [List.mem_singleton] at hy
              subst hy
              have hb := RW.out.rd.2
              refine hb.mem _ ?_
              rw [List.getD_eq_getElem?_getD, List.getElem?_eq_getElem (by rw [HLL.out]; omega)]
              simp)
            have HTK := Lib.hid (take_one (bb 1) j (by rw [HLL.out]; omega))
            have e9 : w2.cell? ⟨gw, j, none⟩ = some (.int .u8 ((bb 1).getD j 0)) := by
              simpa [add_plain] using hcell
            generalize (bb 1).getD j 0 = z at e9 hz HTK
            have HZ := Lib.hid hz
            have hbsA : base ≤ (w2.drew.alloc (.cells #[.int .u8 z] 5)).heap.size := by simp; omega
            have hplA : p < (w2.drew.alloc (.cells #[.int .u8 z] 5)).heap.size := by simp; omega
            have hpa : (w2.drew.alloc (.cells #[.int .u8 z] 5)).heap[p]? = w2.heap[p]? := (((Below.refl w2.heap.size w2).drew.alloc (Nat.le_refl _) _)).block p hpl
            clear hcell had hz
            have hj2 : (j : Int) < k := HJK.out j hlt
            go_wp2_with fail
            refine begin_ (fun W : World => W.cell? ⟨p, 0, none⟩ = some (.slice sA sn sc) ∧ W.cell? ⟨p, 2, none⟩ = some (.slice (some ⟨gw, 0, none⟩) wn wc) ∧ W.cell? ⟨gw, j, none⟩ = some (.int .u8 z)) [18, 22] (by kernel_rfl) ?_
            have hSw : (fun W : World => W.cell? ⟨p, 0, none⟩ = some (.slice sA sn sc) ∧ W.cell? ⟨p, 2, none⟩ = some (.slice (some ⟨gw, 0, none⟩) wn wc) ∧ W.cell? ⟨gw, j, none⟩ = some (.int .u8 z)) w2.drew := ⟨e0, e1, e9⟩
            simp only [List.size_toArray, List.length_cons, List.length_nil, Nat.reduceAdd, Array.replicate_succ, Array.replicate_zero, List.push_toArray, List.append_toArray, List.nil_append, List.cons_append]
            refine move_a (i := 0) (v := ?_) rfl (by kernel_rfl) (by kernel_rfl) (by kernel_rfl) (fun _ _ _ h => h) (by rfl) ?_ ?_
            rotate_left
            · (intro w; go_simp; try with_reducible rfl)
            try simp only [Act.put, List.setIfInBounds_toArray, List.set_cons_zero, List.set_cons_succ]
            refine move_a (i := 1) (v := ?_) rfl (by kernel_rfl) (by kernel_rfl) (by kernel_rfl) (fun _ _ _ h => h) (by rfl) ?_ ?_
            rotate_left
            · (intro w; go_simp; try with_reducible rfl)
            try simp only [Act.put, List.setIfInBounds_toArray, List.set_cons_zero, List.set_cons_succ]
            refine move_a (i := 2) (v := ?_) rfl (by kernel_rfl) (by kernel_rfl) (by kernel_rfl) (fun _ _ _ h => h) (by rfl) ?_ ?_
            rotate_left
            · (intro w; go_simp; try with_reducible rfl)
            try simp only [Act.put, List.setIfInBounds_toArray, List.set_cons_zero, List.set_cons_succ]
            refine move_a (i := 3) (v := ?_) rfl (by kernel_rfl) (by kernel_rfl) (by kernel_rfl) (fun _ _ _ h => h) (by rfl) ?_ ?_
            rotate_left
            · (intro w; go_simp; try with_reducible rfl)
            try simp only [Act.put, List.setIfInBounds_toArray, List.set_cons_zero, List.set_cons_succ]
            refine move_a (i := 4) (v := ?_) rfl (by kernel_rfl) (by kernel_rfl) (by kernel_rfl) (fun _ _ _ h => h) (by rfl) ?_ ?_
            rotate_left
            · (intro w; go_simp; try with_reducible rfl)
            try simp only [Act.put, List.setIfInBounds_toArray, List.set_cons_zero, List.set_cons_succ]
            refine move_a (i := 5) (v := ?_) rfl (by kernel_rfl) (by kernel_rfl) (by kernel_rfl) (fun _ _ _ h => h) (by rfl) ?_ ?_
            rotate_left
            · (intro w; go_simp; try with_reducible rfl)
            try simp only [Act.put, List.setIfInBounds_toArray, List.set_cons_zero, List.set_cons_succ]
            refine move_a (i := 6) (v := ?_) rfl (by kernel_rfl) (by kernel_rfl) (by kernel_rfl) (fun _ _ _ h => h) (by rfl) ?_ ?_
            rotate_left
            · (intro w; go_simp; try with_reducible rfl)
            try simp only [Act.put, List.setIfInBounds_toArray, List.set_cons_zero, List.set_cons_succ]
            refine move_b [18, 22] [18, 22] (i := 7) (v := ?_) rfl (by kernel_rfl) (by kernel_rfl) (by kernel_rfl) (fun _ _ _ h => h) (by kernel_rfl) (by kernel_rfl) (by kernel_rfl) (by rfl) ?_ hSw ?_
            rotate_left
            · (intro w hSw; (try dsimp only at hSw); go_simp; try with_reducible rfl)
            try simp only [Act.put, List.setIfInBounds_toArray, List.set_cons_zero, List.set_cons_succ]
            refine move_a (i := 8) (v := ?_) rfl (by kernel_rfl) (by kernel_rfl) (by kernel_rfl) (fun _ _ _ h => h) (by rfl) ?_ ?_
            rotate_left
            · (intro w; go_simp; try with_reducible rfl)
            try simp only [Act.put, List.setIfInBounds_toArray, List.set_cons_zero, List.set_cons_succ]
            refine move_a (i := 9) (v := ?_) rfl (by kernel_rfl) (by kernel_rfl) (by kernel_rfl) (fun _ _ _ h => h) (by rfl) ?_ ?_
            rotate_left
            · (intro w; go_simp; try with_reducible rfl)
            try simp only [Act.put, List.setIfInBounds_toArray, List.set_cons_zero, List.set_cons_succ]
            refine move_a (i := 10) (v := ?_) rfl (by kernel_rfl) (by kernel_rfl) (by kernel_rfl) (fun _ _ _ h => h) (by rfl) ?_ ?_
            rotate_left
            · (intro w; go_simp; try with_reducible rfl)
            try simp only [Act.put, List.setIfInBounds_toArray, List.set_cons_zero, List.set_cons_succ]
            refine move_a (i := 11) (v := ?_) rfl (by kernel_rfl) (by kernel_rfl) (by kernel_rfl) (fun _ _ _ h => h) (by rfl) ?_ ?_
            rotate_left
            · (intro w; go_simp; try with_reducible rfl)
            try simp only [Act.put, List.setIfInBounds_toArray, List.set_cons_zero, List.set_cons_succ]
            refine move_a (i := 12) (v := ?_) rfl (by kernel_rfl) (by kernel_rfl) (by kernel_rfl) (fun _ _ _ h => h) (by rfl) ?_ ?_
            rotate_left
            · (intro w; go_simp; try with_reducible rfl)
            try simp only [Act.put, List.setIfInBounds_toArray, List.set_cons_zero, List.set_cons_succ]
            refine move_b [15, 16, 17, 18, 22] [18, 22] (i := 13) (v := ?_) rfl (by kernel_rfl) (by kernel_rfl) (by kernel_rfl) (fun _ _ _ h => h) (by kernel_rfl) (by kernel_rfl) (by kernel_rfl) (by rfl) ?_ hSw ?_
            rotate_left
            · (intro w hSw; (try dsimp only at hSw); go_simp; try with_reducible rfl)
            try simp only [Act.put, List.setIfInBounds_toArray, List.set_cons_zero, List.set_cons_succ]
            refine move_a (i := 14) (v := ?_) rfl (by kernel_rfl) (by kernel_rfl) (by kernel_rfl) (fun _ _ _ h => h) (by rfl) ?_ ?_
            rotate_left
            · (intro w; go_simp; try with_reducible rfl)
            try simp only [Act.put, List.setIfInBounds_toArray, List.set_cons_zero, List.set_cons_succ]
            refine move_a (i := 15) (v := ?_) rfl (by kernel_rfl) (by kernel_rfl) (by kernel_rfl) (fun _ _ _ h => h) (by rfl) ?_ ?_
            rotate_left
            · (intro w; go_simp; try with_reducible rfl)
            try simp only [Act.put, List.setIfInBounds_toArray, List.set_cons_zero, List.set_cons_succ]
            refine move_b [17, 18, 22] [18, 22] (i := 16) (v := ?_) rfl (by kernel_rfl) (by kernel_rfl) (by kernel_rfl) (fun _ _ _ h => h) (by kernel_rfl) (by kernel_rfl) (by kernel_rfl) (by rfl) ?_ hSw ?_
            rotate_left
            · (intro w hSw; (try dsimp only at hSw); go_simp; try with_reducible rfl)
            try simp only [Act.put, List.setIfInBounds_toArray, List.set_cons_zero, List.set_cons_succ]
            refine move_a (i := 19) (v := ?_) rfl (by kernel_rfl) (by kernel_rfl) (by kernel_rfl) (fun _ _ _ h => h) (by rfl) ?_ ?_
            rotate_left
            · (intro w; go_simp; try with_reducible rfl)
            try simp only [Act.put, List.setIfInBounds_toArray, List.set_cons_zero, List.set_cons_succ]
            refine move_a (i := 20) (v := ?_) rfl (by kernel_rfl) (by kernel_rfl) (by kernel_rfl) (fun _ _ _ h => h) (by rfl) ?_ ?_
            rotate_left
            · (intro w; go_simp; try with_reducible rfl)
            try simp only [Act.put, List.setIfInBounds_toArray, List.set_cons_zero, List.set_cons_succ]
            refine move_e (i := 17) (by kernel_rfl) rfl (fun K hK => ?_)
            go_simp
            refine hK _ _ (fun hS => ⟨pw_cell_below (below_alloc (Below.refl _ _) _) hS.1, pw_cell_below (below_alloc (Below.refl _ _) _) hS.2.1, pw_cell_below (below_alloc (Below.refl _ _) _) hS.2.2⟩) ?_
            clear hK K
            try simp only [Act.put, List.setIfInBounds_toArray, List.set_cons_zero, List.set_cons_succ]
            refine move_c (i := 18) (by kernel_rfl) rfl (by rfl) (fun K hK => ?_)
            (refine stepAppF (base := base) rfl (.tmp 38) (.tmp 48) rfl rfl rfl (OwF.below RS.out (((Below.refl w2.heap.size w2).alloc (Nat.le_refl _) _).drew)) (litB w2.drew (0, 0) [z] (Nat.le_of_ble_eq_true rfl) HZ.out) hbsA (show sn + 1 ≤ 140737488355328 by omega) ?_; intro A1 n1 c1 w3 ho hg hob; have HO := Lib.hid ho; have HG := Lib.hid hg; have HOB := Lib.hid hob; have hpb : w3.heap[p]? = w2.heap[p]? := (hg.block p hplA (fun e => HNP.out (HOWN.out.trans e.symm))).trans hpa; have y0 : w3.cell? ⟨p, 0, none⟩ = some (.slice sA sn sc) := (World.cell?_of_block hpb).trans e0; have z0 : w3.frozen? ⟨p, 0, none⟩ = false := (World.frozen?_of_block hpb).trans f0; clear ho hg hob hpb)
            refine hK _ _ ?_
            clear hK K
            try simp only [Act.put, List.setIfInBounds_toArray, List.set_cons_zero, List.set_cons_succ]
            refine move_a (i := 21) (v := ?_) rfl (by kernel_rfl) (by kernel_rfl) (by kernel_rfl) (fun _ _ _ h => h) (by rfl) ?_ ?_
            rotate_left
            · (intro w; go_simp; try with_reducible rfl)
            try simp only [Act.put, List.setIfInBounds_toArray, List.set_cons_zero, List.set_cons_succ]
            refine move_c (i := 22) (by kernel_rfl) rfl (by rfl) (fun K hK => ?_)
            go_simp
            refine hK _ _ ?_
            clear hK K
            try simp only [Act.put, List.setIfInBounds_toArray, List.set_cons_zero, List.set_cons_succ]
            refine move_d (by kernel_rfl) ?_
            have HF := Lib.hid (HSLOT.out ⟨A1, n1, c1⟩ _ w3 (by rw [HOWN.out]; exact grownBy_from HG.out) HO.out (fun g e => by rw [HOWN.out]; exact (HOB.out g e).imp id (fun h => Nat.le_trans (Nat.le_of_lt (Nat.lt_succ_self _)) (by simpa using h))))
            clear y0 z0 e0 e1 e9 f0 f1
            go_wp2
            go_roundw
            case rel => exact ⟨j + 1, _, by omega, by go_num, ⟨by
              have h1 := HF.out.1
              unfold putB at h1
              dsimp only at h1
              rw [upd_upd, List.append_assoc, ← HTK.out] at h1
              exact h1⟩, ⟨HSJ.out.trans HF.out.2⟩⟩
            case measure => simp [intOf]; omega
          · obtain rfl : j = K := by omega
            have hend : RAt (w2.setCell ⟨p, 2, none⟩ (.slice none 0 0)) base p (upd cj 1 nilS) ⟨offN k d.b (0 + 1), d.off, d.n, d.a, d.k⟩ := by
              rw [HN.out]
              exact HSN.out.1
            have HEND := Lib.hid hend
            clear hend hlt
            by_cases hKL : j < L
            · have hk2 := HJN.out hKL
              have hj1 : j < wn := by omega
              have hj1i : (j : Int) < (wn : Int) := by omega
              clear hKL
              go_wp2
              go_roundw
              case rel => exact ⟨0 + 1, _, by omega, by go_num, ⟨HEND.out⟩, ⟨HSJ.out.trans HSN.out.2⟩⟩
              case measure => simp [intOf]
            · have hj1 : ¬ j < wn := by omega
              have hj1i : ¬ (j : Int) < (wn : Int) := by omega
              clear hKL
              go_wp2
              go_roundw
              case rel => exact ⟨0 + 1, _, by omega, by go_num, ⟨HEND.out⟩, ⟨HSJ.out.trans HSN.out.2⟩⟩
              case measure => simp [intOf]
      · obtain ⟨bb, hbb⟩ : ∃ bb, offN k d.b 1 = bb := ⟨_, rfl⟩
        have HBB := Lib.hid hbb
        have hsb : (bb 2).length ≤ 17592186044416 ∧ (bb 3).length ≤ 17592186044416 := by
          rw [← hbb]
          exact ⟨HS.out 2 (by omega), HS.out 3 (by omega)⟩
        clear hbb
        rw [HBB.out] at HD
        have HN : Hid (offN k d.b (1 + 1) = upd (upd bb 2 (bb 2 ++ (bb 3).take (stay k (bb 3)))) 3 []) := Lib.hid (by
          rw [← HBB.out]
          rfl)
        have hkl := stay_le k (bb 3)
        have hkd : stay k (bb 3) = (min (max k 0) ((bb 3).length : Int)).toNat := rfl
        obtain ⟨L, hL⟩ : ∃ L, (bb 3).length = L := ⟨_, rfl⟩
        rw [hL] at hkl hkd hsb
        have HLL := Lib.hid hL
        clear hL
        generalize stay k (bb 3) = K at hkl hkd HN
        obtain ⟨hs0, hs1⟩ := hsb
        have HJK : Hid (∀ j : Nat, j < K → (j : Int) < k) := Lib.hid (fun j h => by omega)
        have HJN : Hid (K < L → ¬ (K : Int) < k) := Lib.hid (fun h => by omega)
        clear hkd
        go_wp2
        go_loopw [5] (fun lj w2 => ∃ (j : Nat) (cj : Nat → Sl), j ≤ K ∧ lj = .int .i64 j ∧ Aside0 (RAt w2 base p cj ⟨upd bb 2 (bb 2 ++ (bb 3).take j), d.off, d.n, d.a, d.k⟩) ∧ Aside0 (DStep w base p cs w2 cj)) (fun lj _ => K - (intOf lj).toNat)
        case atStart => exact ⟨0, cr, by omega, rfl, ⟨by
          have e : upd bb 2 (bb 2 ++ (bb 3).take 0) = bb := by
            funext q
            unfold upd
            split
            · rename_i h; subst h; simp
            · rfl
          rw [e]
          exact HD.out⟩, ⟨HST.out⟩⟩
        case round =>
          rename World => w2
          obtain ⟨j, cj, hj, rfl, HJ, HSJ⟩ := hrel
          obtain ⟨c0, c2, c1, c3, _, _, _, _⟩ := HJ.out.cells
          have e0 := c1
          have e1 := c3
          clear c0 c1 c2 c3
          have f0 := HJ.out.free 1
          have f1 := HJ.out.free 3
          have RS : Hid (OwF w2 base (cj 2) (bb 2 ++ (bb 3).take j)) := Lib.hid (HJ.out.row 2 (by omega))
          have RW : Hid (OwF w2 base (cj 3) (bb 3)) := Lib.hid (HJ.out.row 3 (by omega))
          have hwl : (cj 3).n = L := by rw [← RW.out.len]; exact HLL.out
          have hsl : (cj 2).n ≤ 35184372088832 := by
            have := RS.out.len
            rw [List.length_append, List.length_take, HLL.out] at this
            omega
          have hnp : (cj 2).own ≠ some p := HJ.out.np 2 (by omega)
          have HSLOT := Lib.hid (fun x ys w3 hg hx ho => HJ.out.slot (w1 := w3) (i := 2) (x := x) (ys := ys) (by omega) hg hx ho)
          have HSN := Lib.hid (HJ.out.slot (w1 := w2) (i := 3) (x := nilS) (ys := []) (by omega) (grownBy_self _ _) (OwF.of (OwB.nil _ _)) (fun g e => by cases e))
          have HOWN : Hid ((cj 2).own = (Value.slice (cj 2).A (cj 2).n (cj 2).c).ownBlock) := Lib.hid rfl
          have HNP := Lib.hid hnp
          have hbs := HJ.out.base_le
          have hpl := HJ.out.plt
          clear hnp
          obtain ⟨sA, hsA⟩ : ∃ x, (cj 2).A = x := ⟨_, rfl⟩
          obtain ⟨sn, hsn⟩ : ∃ x, (cj 2).n = x := ⟨_, rfl⟩
          obtain ⟨sc, hsc⟩ : ∃ x, (cj 2).c = x := ⟨_, rfl⟩
          obtain ⟨wA, hwA⟩ : ∃ x, (cj 3).A = x := ⟨_, rfl⟩
          obtain ⟨wn, hwn⟩ : ∃ x, (cj 3).n = x := ⟨_, rfl⟩
          obtain ⟨wc, hwc⟩ : ∃ x, (cj 3).c = x := ⟨_, rfl⟩
          have HRS : Hid (OwF w2 base ⟨sA, sn, sc⟩ (bb 2 ++ (bb 3).take j)) := Lib.hid (by rw [← hsA, ← hsn, ← hsc]; exact RS.out)
          have HRW : Hid (OwF w2 base ⟨wA, wn, wc⟩ (bb 3)) := Lib.hid (by rw [← hwA, ← hwn, ← hwc]; exact RW.out)
          have RS := HRS
          have RW := HRW
          rw [hsA, hsn, hsc] at e0
          rw [hwA, hwn, hwc] at e1
          rw [hsA, hsn, hsc] at HOWN
          rw [hsn] at hsl
          rw [hwn] at hwl
          clear hsA hsn hsc hwA hwn hwc HRS HRW
          have hwla : wn ≤ L := Nat.le_of_eq hwl
          have hwlb : L ≤ wn := Nat.le_of_eq hwl.symm
          clear hwl
          by_cases hlt : j < K
          · have hj1 : j < wn := by omega
            have hj1i : (j : Int) < (wn : Int) := by omega
            obtain ⟨ad, had, hcell⟩ : ∃ ad, wA = some ad ∧ w2.cell? (ad.add j) = some (.int .u8 ((bb 3).getD j 0)) := RW.out.rd.at_ j hj1
            obtain ⟨gw, hgw⟩ : ∃ gw, wA = some ⟨gw, 0, none⟩ := by
              obtain ⟨q, hq, _⟩ := RW.out
              obtain ⟨g, e, _⟩ := OwB.form hq (show 0 < wn by omega)
              exact ⟨g, e⟩
            subst hgw
            obtain rfl : (⟨gw, 0, none⟩ : Addr) = ad := Option.some.inj had
            have hz : By [(bb 3).getD j 0] := By_of _ (fun y hy => by
              rw [List.mem_singleton] at hy
              subst hy
              have hb := RW.out.rd.2
              refine hb.mem _ ?_
              rw [List.getD_eq_getElem?_getD, List.getElem?_eq_getElem (by rw [HLL.out]; omega)]
              simp)
            have HTK := Lib.hid (take_one (bb 3) j (by rw [HLL.out]; omega))
            have e9 : w2.cell? ⟨gw, j, none⟩ = some (.int .u8 ((bb 3).getD j 0)) := by
              simpa [add_plain] using hcell
            generalize (bb 3).getD j 0 = z at e9 hz HTK
            have HZ := Lib.hid hz
            have hbsA : base ≤ (w2.drew.alloc (.cells #[.int .u8 z] 5)).heap.size := by simp; omega
            have hplA : p < (w2.drew.alloc (.cells #[.int .u8 z] 5)).heap.size := by simp; omega
            have hpa : (w2.drew.alloc (.cells #[.int .u8 z] 5)).heap[p]? = w2.heap[p]? := (((Below.refl w2.heap.size w2).drew.alloc (Nat.le_refl _) _)).block p hpl
            clear hcell had hz
            have hj2 : (j : Int) < k := HJK.out j hlt
            go_wp2_with fail
            refine begin_ (fun W : World => W.cell? ⟨p, 1, none⟩ = some (.slice sA sn sc) ∧ W.cell? ⟨p, 3, none⟩ = some (.slice (some ⟨gw, 0, none⟩) wn wc) ∧ W.cell? ⟨gw, j, none⟩ = some (.int .u8 z)) [18, 22] (by kernel_rfl) ?_
            have hSw : (fun W : World => W.cell? ⟨p, 1, none⟩ = some (.slice sA sn sc) ∧ W.cell? ⟨p, 3, none⟩ = some (.slice (some ⟨gw, 0, none⟩) wn wc) ∧ W.cell? ⟨gw, j, none⟩ = some (.int .u8 z)) w2.drew := ⟨e0, e1, e9⟩
            simp only [List.size_toArray, List.length_cons, List.length_nil, Nat.reduceAdd, Array.replicate_succ, Array.replicate_zero, List.push_toArray, List.append_toArray, List.nil_append, List.cons_append]
            refine move_a (i := 0) (v := ?_) rfl (by kernel_rfl) (by kernel_rfl) (by kernel_rfl) (fun _ _ _ h => h) (by rfl) ?_ ?_
            rotate_left
            · (intro w; go_simp; try with_reducible rfl)
            try simp only [Act.put, List.setIfInBounds_toArray, List.set_cons_zero, List.set_cons_succ]
            refine move_a (i := 1) (v := ?_) rfl (by kernel_rfl) (by kernel_rfl) (by kernel_rfl) (fun _ _ _ h => h) (by rfl) ?_ ?_
            rotate_left
            · (intro w; go_simp; try with_reducible rfl)
            try simp only [Act.put, List.setIfInBounds_toArray, List.set_cons_zero, List.set_cons_succ]
            refine move_a (i := 2) (v := ?_) rfl (by kernel_rfl) (by kernel_rfl) (by kernel_rfl) (fun _ _ _ h => h) (by rfl) ?_ ?_
            rotate_left
            · (intro w; go_simp; try with_reducible rfl)
            try simp only [Act.put, List.setIfInBounds_toArray, List.set_cons_zero, List.set_cons_succ]
            refine move_a (i := 3) (v := ?_) rfl (by kernel_rfl) (by kernel_rfl) (by kernel_rfl) (fun _ _ _ h => h) (by rfl) ?_ ?_
            rotate_left
            · (intro w; go_simp; try with_reducible rfl)
            try simp only [Act.put, List.setIfInBounds_toArray, List.set_cons_zero, List.set_cons_succ]
            refine move_a (i := 4) (v := ?_) rfl (by kernel_rfl) (by kernel_rfl) (by kernel_rfl) (fun _ _ _ h => h) (by rfl) ?_ ?_
            rotate_left
            · (intro w; go_simp; try with_reducible rfl)
            try simp only [Act.put, List.setIfInBounds_toArray, List.set_cons_zero, List.set_cons_succ]
            refine move_a (i := 5) (v := ?_) rfl (by kernel_rfl) (by kernel_rfl) (by kernel_rfl) (fun _ _ _ h => h) (by rfl) ?_ ?_
            rotate_left
            · (intro w; go_simp; try with_reducible rfl)
            try simp only [Act.put, List.setIfInBounds_toArray, List.set_cons_zero, List.set_cons_succ]
            refine move_a (i := 6) (v := ?_) rfl (by kernel_rfl) (by kernel_rfl) (by kernel_rfl) (fun _ _ _ h => h) (by rfl) ?_ ?_
            rotate_left
            · (intro w; go_simp; try with_reducible rfl)
            try simp only [Act.put, List.setIfInBounds_toArray, List.set_cons_zero, List.set_cons_succ]
            refine move_b [18, 22] [18, 22] (i := 7) (v := ?_) rfl (by kernel_rfl) (by kernel_rfl) (by kernel_rfl) (fun _ _ _ h => h) (by kernel_rfl) (by kernel_rfl) (by kernel_rfl) (by rfl) ?_ hSw ?_
            rotate_left
            · (intro w hSw; (try dsimp only at hSw); go_simp; try with_reducible rfl)
            try simp only [Act.put, List.setIfInBounds_toArray, List.set_cons_zero, List.set_cons_succ]
            refine move_a (i := 8) (v := ?_) rfl (by kernel_rfl) (by kernel_rfl) (by kernel_rfl) (fun _ _ _ h => h) (by rfl) ?_ ?_
            rotate_left
            · (intro w; go_simp; try with_reducible rfl)
            try simp only [Act.put, List.setIfInBounds_toArray, List.set_cons_zero, List.set_cons_succ]
            refine move_a (i := 9) (v := ?_) rfl (by kernel_rfl) (by kernel_rfl) (by kernel_rfl) (fun _ _ _ h => h) (by rfl) ?_ ?_
            rotate_left
            · (intro w; go_simp; try with_reducible rfl)
            try simp only [Act.put, List.setIfInBounds_toArray, List.set_cons_zero, List.set_cons_succ]
            refine move_a (i := 10) (v := ?_) rfl (by kernel_rfl) (by kernel_rfl) (by kernel_rfl) (fun _ _ _ h => h) (by rfl) ?_ ?_
            rotate_left
            · (intro w; go_simp; try with_reducible rfl)
            try simp only [Act.put, List.setIfInBounds_toArray, List.set_cons_zero, List.set_cons_succ]
            refine move_a (i := 11) (v := ?_) rfl (by kernel_rfl) (by kernel_rfl) (by kernel_rfl) (fun _ _ _ h => h) (by rfl) ?_ ?_
            rotate_left
            · (intro w; go_simp; try with_reducible rfl)
            try simp only [Act.put, List.setIfInBounds_toArray, List.set_cons_zero, List.set_cons_succ]
            refine move_a (i := 12) (v := ?_) rfl (by kernel_rfl) (by kernel_rfl) (by kernel_rfl) (fun _ _ _ h => h) (by rfl) ?_ ?_
            rotate_left
            · (intro w; go_simp; try with_reducible rfl)
            try simp only [Act.put, List.setIfInBounds_toArray, List.set_cons_zero, List.set_cons_succ]
            refine move_b [15, 16, 17, 18, 22] [18, 22] (i := 13) (v := ?_) rfl (by kernel_rfl) (by kernel_rfl) (by kernel_rfl) (fun _ _ _ h => h) (by kernel_rfl) (by kernel_rfl) (by kernel_rfl) (by rfl) ?_ hSw ?_
            rotate_left
            · (intro w hSw; (try dsimp only at hSw); go_simp; try with_reducible rfl)
            try simp only [Act.put, List.setIfInBounds_toArray, List.set_cons_zero, List.set_cons_succ]
            refine move_a (i := 14) (v := ?_) rfl (by kernel_rfl) (by kernel_rfl) (by kernel_rfl) (fun _ _ _ h => h) (by rfl) ?_ ?_
            rotate_left
            · (intro w; go_simp; try with_reducible rfl)
            try simp only [Act.put, List.setIfInBounds_toArray, List.set_cons_zero, List.set_cons_succ]
            refine move_a (i := 15) (v := ?_) rfl (by kernel_rfl) (by kernel_rfl) (by kernel_rfl) (fun _ _ _ h => h) (by rfl) ?_ ?_
            rotate_left
            · (intro w; go_simp; try with_reducible rfl)
            try simp only [Act.put, List.setIfInBounds_toArray, List.set_cons_zero, List.set_cons_succ]
            refine move_b [17, 18, 22] [18, 22] (i := 16) (v := ?_) rfl (by kernel_rfl) (by kernel_rfl) (by kernel_rfl) (fun _ _ _ h => h) (by kernel_rfl) (by kernel_rfl) (by kernel_rfl) (by rfl) ?_ hSw ?_
            rotate_left
            · (intro w hSw; (try dsimp only at hSw); go_simp; try with_reducible rfl)
            try simp only [Act.put, List.setIfInBounds_toArray, List.set_cons_zero, List.set_cons_succ]
            refine move_a (i := 19) (v := ?_) rfl (by kernel_rfl) (by kernel_rfl) (by kernel_rfl) (fun _ _ _ h => h) (by rfl) ?_ ?_
            rotate_left
            · (intro w; go_simp; try with_reducible rfl)
            try simp only [Act.put, List.setIfInBounds_toArray, List.set_cons_zero, List.set_cons_succ]
            refine move_a (i := 20) (v := ?_) rfl (by kernel_rfl) (by kernel_rfl) (by kernel_rfl) (fun _ _ _ h => h) (by rfl) ?_ ?_
            rotate_left
            · (intro w; go_simp; try with_reducible rfl)
            try simp only [Act.put, List.setIfInBounds_toArray, List.set_cons_zero, List.set_cons_succ]
            refine move_e (i := 17) (by kernel_rfl) rfl (fun K hK => ?_)
            go_simp
            refine hK _ _ (fun hS => ⟨pw_cell_below (below_alloc (Below.refl _ _) _) hS.1, pw_cell_below (below_alloc (Below.refl _ _) _) hS.2.1, pw_cell_below (below_alloc (Below.refl _ _) _) hS.2.2⟩) ?_
            clear hK K
            try simp only [Act.put, List.setIfInBounds_toArray, List.set_cons_zero, List.set_cons_succ]
            refine move_c (i := 18) (by kernel_rfl) rfl (by rfl) (fun K hK => ?_)
            (refine stepAppF (base := base) rfl (.tmp 38) (.tmp 48) rfl rfl rfl (OwF.below RS.out (((Below.refl w2.heap.size w2).alloc (Nat.le_refl _) _).drew)) (litB w2.drew (0, 0) [z] (Nat.le_of_ble_eq_true rfl) HZ.out) hbsA (show sn + 1 ≤ 140737488355328 by omega) ?_; intro A1 n1 c1 w3 ho hg hob; have HO := Lib.hid ho; have HG := Lib.hid hg; have HOB := Lib.hid hob; have hpb : w3.heap[p]? = w2.heap[p]? := (hg.block p hplA (fun e => HNP.out (HOWN.out.trans e.symm))).trans hpa; have y0 : w3.cell? ⟨p, 1, none⟩ = some (.slice sA sn sc) := (World.cell?_of_block hpb).trans e0; have z0 : w3.frozen? ⟨p, 1, none⟩ = false := (World.frozen?_of_block hpb).trans f0; clear ho hg hob hpb)
            refine hK _ _ ?_
            clear hK K
            try simp only [Act.put, List.setIfInBounds_toArray, List.set_cons_zero, List.set_cons_succ]
            refine move_a (i := 21) (v := ?_) rfl (by kernel_rfl) (by kernel_rfl) (by kernel_rfl) (fun _ _ _ h => h) (by rfl) ?_ ?_
            rotate_left
            · (intro w; go_simp; try with_reducible rfl)
            try simp only [Act.put, List.setIfInBounds_toArray, List.set_cons_zero, List.set_cons_succ]
            refine move_c (i := 22) (by kernel_rfl) rfl (by rfl) (fun K hK => ?_)
            go_simp
            refine hK _ _ ?_
            clear hK K
            try simp only [Act.put, List.setIfInBounds_toArray, List.set_cons_zero, List.set_cons_succ]
            refine move_d (by kernel_rfl) ?_
            have HF := Lib.hid (HSLOT.out ⟨A1, n1, c1⟩ _ w3 (by rw [HOWN.out]; exact grownBy_from HG.out) HO.out (fun g e => by rw [HOWN.out]; exact (HOB.out g e).imp id (fun h => Nat.le_trans (Nat.le_of_lt (Nat.lt_succ_self _)) (by simpa using h))))
            clear y0 z0 e0 e1 e9 f0 f1
            go_wp2
            go_roundw
            case rel => exact ⟨j + 1, _, by omega, by go_num, ⟨by
              have h1 := HF.out.1
              unfold putB at h1
              dsimp only at h1
              rw [upd_upd, List.append_assoc, ← HTK.out] at h1
              exact h1⟩, ⟨HSJ.out.trans HF.out.2⟩⟩
            case measure => simp [intOf]; omega
          · obtain rfl : j = K := by omega
            have hend : RAt (w2.setCell ⟨p, 3, none⟩ (.slice none 0 0)) base p (upd cj 3 nilS) ⟨offN k d.b (1 + 1), d.off, d.n, d.a, d.k⟩ := by
              rw [HN.out]
              exact HSN.out.1
            have HEND := Lib.hid hend
            clear hend hlt
            by_cases hKL : j < L
            · have hk2 := HJN.out hKL
              have hj1 : j < wn := by omega
              have hj1i : (j : Int) < (wn : Int) := by omega
              clear hKL
              go_wp2
              go_roundw
              case rel => exact ⟨1 + 1, _, by omega, by go_num, ⟨HEND.out⟩, ⟨HSJ.out.trans HSN.out.2⟩⟩
              case measure => simp [intOf]
            · have hj1 : ¬ j < wn := by omega
              have hj1i : ¬ (j : Int) < (wn : Int) := by omega
              clear hKL
              go_wp2
              go_roundw
              case rel => exact ⟨1 + 1, _, by omega, by go_num, ⟨HEND.out⟩, ⟨HSJ.out.trans HSN.out.2⟩⟩
              case measure => simp [intOf]
      · obtain ⟨_, _, _, _, e4, _, e6, _⟩ := HD.out.cells
        obtain ⟨_, _, _, _, f4, _, f6, _⟩ := HD.out.frees
        have h4 := HD.out.scal 4 (.bool false) (d' := ⟨offN k d.b 2, true, d.n, d.a, d.k⟩) rfl rfl
        have S4 := HST.out.trans (rstep_store HD.out 4 (.bool false))
        have H6 := Lib.hid (h4.scal 6 (.int .i64 0) (d' := ⟨offN k d.b 2, true, d.n, 0, d.k⟩) rfl rfl)
        have S6 := Lib.hid (S4.trans (rstep_store h4 6 (.int .i64 0)))
        clear h4 S4
        go_wp2
        refine bodyPost_end (results_none rfl _ _ _) rfl ?_
        exact ⟨rfl, cr, by rw [HOD.out]; exact H6.out, S6.out⟩
  · rw [ho] at e4 HOD
    simp only [Bool.not_true] at e4
    have HOD := Lib.hid (HOD.out.trans (if_pos rfl))
    clear ho
    go_enter Try.func34, Try.ntmps34
    go_wp2
    refine bodyPost_ret (results_none rfl _ _ _) rfl ?_
    exact ⟨rfl, cs, by rw [HOD.out]; exact H.out, DStep.refl _ _ _ _⟩
end Go.Proofs.Ytbmdglbhmianjaa.refw
