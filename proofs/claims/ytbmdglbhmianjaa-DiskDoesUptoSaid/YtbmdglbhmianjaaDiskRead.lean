/- What the disk's Read, Safe, New and Load compute. -/
import Derived.Test.YtbmdglbhmianjaaDiskCut
set_option linter.unusedVariables false
set_option linter.unusedSimpArgs false
namespace Go.Proofs.Ytbmdglbhmianjaa.diskw
open Go.RowKit Go.Proofs.YtbmdglbhmianjaaW.PrintWords Go.Proofs.Ytbmdglbhmianjaa.base Go.Proofs.Ytbmdglbhmianjaa.mem Go.Proofs.Ytbmdglbhmianjaa.keep Go.Proofs.Ytbmdglbhmianjaa.diskp Go.Proofs.Ytbmdglbhmianjaa.diskr Go.Proofs.Ytbmdglbhmianjaa.ordt Go.Proofs.Ytbmdglbhmianjaa.clone

/-- what Read answers -/
def readR (d : D) (f : Int) : List Int × Int := if rdy d f ≠ 0 then ([], rdy d f) else (fileB d f.toNat, 0)
def RetR (w : World) (xs : List Int) (r : Int) (e : Ending) (w' : World) : Prop := ∃ A n c, e = .returned (.tuple #[.slice A n c, .int .i64 r]) ∧ OwB w' w.heap.size A n c xs ∧ Below w.heap.size w w'
set_option maxHeartbeats 2000000 in
theorem read_any {w : World} {base p : Nat} {cs : Nat → Sl} {d : D} (h : DAt w base p cs d) (hs : Small d.b) (f : Int) :
    Calls Try.prog 13 #[.pointer (some ⟨p, 0, none⟩), .int .i64 f] w (RetR w (readR d f).1 (readR d f).2) := by
  have HRD := Lib.hid (ready_any h f)
  have HA : Hid (readR d f = if rdy d f ≠ 0 then ([], rdy d f) else (fileB d f.toNat, 0)) := Lib.hid rfl
  by_cases h0 : rdy d f = 0
  · obtain ⟨i, rfl, hi, hoff⟩ := rdy_ok h0
    have HA := Lib.hid (HA.out.trans (if_neg (fun e => e h0)))
    rw [h0] at HRD
    have htn : (i : Int).toNat = i := by omega
    rw [htn] at HA
    have hii : (i : Int) < 2 := by omega
    have e0 := h.at0 hi
    have e1 := h.at1 hi
    have RS : Hid (OwB w base (cs (2 * i)).A (cs (2 * i)).n (cs (2 * i)).c (d.b (2 * i))) := Lib.hid (h.row (2 * i) (by omega))
    have RW : Hid (OwB w base (cs (2 * i + 1)).A (cs (2 * i + 1)).n (cs (2 * i + 1)).c (d.b (2 * i + 1))) := Lib.hid (h.row (2 * i + 1) (by omega))
    have hl0 := hs (2 * i) (by omega)
    have hl1 := hs (2 * i + 1) (by omega)
    have hcS := RS.out.cap
    have hcW := RW.out.cap
    have HFB : Hid (fileB d i = d.b (2 * i) ++ d.b (2 * i + 1)) := Lib.hid rfl
    clear h hs h0 hoff htn
    generalize (cs (2 * i)).A = sA at *
    generalize (cs (2 * i)).n = sn at *
    generalize (cs (2 * i)).c = sc at *
    generalize (cs (2 * i + 1)).A = wA at *
    generalize (cs (2 * i + 1)).n = wn at *
    generalize (cs (2 * i + 1)).c = wc at *
    have RR : Hid (RdBB (w.alloc (.cells #[.slice sA sn sc, .slice wA wn wc] 22)).drew (some ⟨w.heap.size, 0, none⟩) 2 [d.b (2 * i), d.b (2 * i + 1)]) := Lib.hid ((rows2 RS.out.rd hcS RW.out.rd hcW 22).below (Below.refl _ _).drew)
    have B1 := Lib.hid ((below_alloc (Below.refl w.heap.size w) (.cells #[.slice sA sn sc, .slice wA wn wc] 22)).drew)
    have k0 : ((w.alloc (.cells #[.slice sA sn sc, .slice wA wn wc] 22)).drew).cell? ⟨p, i * 2, none⟩ = some (.slice sA sn sc) := pw_cell_below B1.out e0
    have k1 : (w.alloc (.cells #[.slice sA sn sc, .slice wA wn wc] 22)).drew.cell? ⟨p, i * 2 + 1, none⟩ = some (.slice wA wn wc) := pw_cell_below B1.out e1
    go_enter Try.func13, Try.ntmps13
    go_wp2_with fail
    refine HRD.out.mono ?_
    rintro e w' ⟨rfl, rfl⟩
    go_wp2_with fail
    go_region_held3 (fun W : World => W.cell? ⟨p, i * 2, none⟩ = some (.slice sA sn sc) ∧ W.cell? ⟨p, i * 2 + 1, none⟩ = some (.slice wA wn wc)) (first | assumption | exact ⟨e0, e1⟩ | exact ⟨by assumption, by assumption⟩) ((go_at_call 29; refine (concat_any _ _ _ _ _ RR.out (by omega)).mono ?_; rintro e w4 ⟨A4, n4, c4, rfl, ho, hb⟩; have HO4 := Lib.hid (OwB.less ho B1.out.size); have B4 := Lib.hid (B1.out.trans (hb.mono B1.out.size)); have y0 : w4.cell? ⟨p, i * 2, none⟩ = some (.slice sA sn sc) := pw_cell_below B4.out e0; have y1 : w4.cell? ⟨p, i * 2 + 1, none⟩ = some (.slice wA wn wc) := pw_cell_below B4.out e1; clear ho hb))
    go_wp2
    refine bodyPost_ret (results_tmp2 rfl _ _ _) rfl ?_
    exact ⟨A4, n4, c4, by rw [HA.out]; rfl, by rw [HA.out, HFB.out]; exact HO4.out, B4.out⟩
  · have HA := Lib.hid (HA.out.trans (if_pos h0))
    have hb : (rdy d f == 0) = false := by simp [h0]
    have hb2 : (rdy d f != 0) = true := by simp [h0]
    clear h hs h0
    generalize rdy d f = r at *
    go_enter Try.func13, Try.ntmps13
    go_wp2_with fail
    refine HRD.out.mono ?_
    rintro e w' ⟨rfl, rfl⟩
    go_wp2
    refine bodyPost_ret (results_tmp2 rfl _ _ _) rfl ?_
    exact ⟨none, 0, 0, by rw [HA.out]; rfl, by rw [HA.out]; exact OwB.nil _ _, Below.refl _ _⟩
/-- what Safe answers -/
def safeR (d : D) (f : Int) : List Int := if f < 0 ∨ 1 < f then [] else d.b (2 * f.toNat)
set_option maxHeartbeats 1000000 in
theorem safe_any {w : World} {base p : Nat} {cs : Nat → Sl} {d : D} (h : DAt w base p cs d) (hs : Small d.b) (f : Int) :
    Calls Try.prog 14 #[.pointer (some ⟨p, 0, none⟩), .int .i64 f] w (RetB w (safeR d f)) := by
  have HA : Hid (safeR d f = if f < 0 ∨ 1 < f then [] else d.b (2 * f.toNat)) := Lib.hid rfl
  by_cases hf : f < 0
  · have HA := Lib.hid (HA.out.trans (if_pos (.inl hf)))
    clear h hs
    go_enter Try.func14, Try.ntmps14
    go_wp2
    go_ret
    exact ⟨none, 0, 0, rfl, by rw [HA.out]; exact OwB.nil _ _, Below.refl _ _⟩
  by_cases hf1 : 1 < f
  · have HA := Lib.hid (HA.out.trans (if_pos (.inr hf1)))
    clear h hs
    go_enter Try.func14, Try.ntmps14
    go_wp2
    go_ret
    exact ⟨none, 0, 0, rfl, by rw [HA.out]; exact OwB.nil _ _, Below.refl _ _⟩
  obtain ⟨i, rfl⟩ := Int.eq_ofNat_of_zero_le (show 0 ≤ f by omega)
  have hi : i < 2 := by omega
  have HA := Lib.hid (HA.out.trans (if_neg (fun e => e.elim hf hf1)))
  have htn : (i : Int).toNat = i := by omega
  rw [htn] at HA
  have hii : (i : Int) < 2 := by omega
  have e0 := h.at0 hi
  have RS := h.row (2 * i) (by omega)
  have hl0 := hs (2 * i) (by omega)
  have HC := Lib.hid (clone_any _ _ (cs (2 * i)).c _ _ (OwB.rd RS) (by rw [← OwB.len RS]; omega))
  clear h hs RS htn
  generalize (cs (2 * i)).A = sA at *
  generalize (cs (2 * i)).n = sn at *
  generalize (cs (2 * i)).c = sc at *
  go_enter Try.func14, Try.ntmps14
  go_wp2_with fail
  refine HC.out.mono ?_
  rintro e w4 ⟨A4, n4, c4, rfl, ho, hb⟩
  have HO := Lib.hid ho
  have HB := Lib.hid hb
  clear ho hb
  go_wp2
  go_ret
  exact ⟨A4, n4, c4, rfl, by rw [HA.out]; exact HO.out, HB.out⟩
/-- a new disk -/
def RetN (w : World) (d : D) (e : Ending) (w' : World) : Prop := ∃ p cs, e = .returned (.pointer (some ⟨p, 0, none⟩)) ∧ DAt w' w.heap.size p cs d ∧ Below w.heap.size w w'
def nilC : Nat → Sl := fun _ => nilS
theorem new_at (w : World) : DAt (w.alloc (.cells #[.slice none 0 0, .slice none 0 0, .slice none 0 0, .slice none 0 0, .bool false, .int .i64 0, .int .i64 0, .int .i64 0] 57)) w.heap.size w.heap.size nilC (diskp.load [] []) := by
  refine ⟨?_, Nat.le_refl _, fun i hi => ?_, fun i hi => (by intro e; cases e), fun i j g _ _ e => (by cases e)⟩
  · show (w.heap.push _)[w.heap.size]? = _
    rw [Array.getElem?_push_size]
    rfl
  · have : (diskp.load [] []).b i = [] := by unfold diskp.load; simp
    rw [this]
    exact OwB.nil _ _
theorem new_any (w : World) : Calls Try.prog 15 #[] w (RetN w (diskp.load [] [])) := by
  have HN := Lib.hid (new_at w)
  have HB := Lib.hid (below_alloc (Below.refl w.heap.size w) (.cells #[.slice none 0 0, .slice none 0 0, .slice none 0 0, .slice none 0 0, .bool false, .int .i64 0, .int .i64 0, .int .i64 0] 57))
  go_enter Try.func15, Try.ntmps15
  go_wp2
  go_ret
  exact ⟨w.heap.size, nilC, rfl, HN.out, HB.out⟩
set_option maxHeartbeats 2000000 in
theorem load_any (A : Option Addr) (n c : Nat) (xs : List Int) (A' : Option Addr) (n' c' : Nat) (ys : List Int) (w : World) (hr : RdB w A n xs) (hn : n ≤ 140737488355328) (hr' : RdB w A' n' ys) (hn' : n' ≤ 140737488355328) :
    Calls Try.prog 10 #[.slice A n c, .slice A' n' c'] w (RetN w (diskp.load xs ys)) := by
  have HR := Lib.hid hr
  have HR' := Lib.hid hr'
  have HNW := Lib.hid (new_any w)
  clear hr hr'
  go_enter Try.func10, Try.ntmps10
  go_wp2_with fail
  refine HNW.out.mono ?_
  rintro e w1 ⟨p, cs, rfl, hd, hb⟩
  have HD := Lib.hid hd
  have HB := Lib.hid hb
  have e0 := hd.cells.1
  have e2 := hd.cells.2.2.1
  have f0 := hd.free 0
  have f2 := hd.free 2
  have C1 := Lib.hid (fun W (h : Below w.heap.size w W) => clone_any A n c xs W (HR.out.below h) hn)
  have C2 := Lib.hid (fun W (h : Below w.heap.size w W) => clone_any A' n' c' ys W (HR'.out.below h) hn')
  have B1 := Lib.hid hb.drew
  have hs1 := hb.size
  clear hd hb
  go_wp2_with fail
  refine begin_ (fun _ : World => True) [3, 5, 10, 15] (by kernel_rfl) ?_
  have hSw : (fun _ : World => True) w1 := trivial
  simp only [List.size_toArray, List.length_cons, List.length_nil, Nat.reduceAdd, Array.replicate_succ, Array.replicate_zero, List.push_toArray, List.append_toArray, List.nil_append, List.cons_append]
  refine move_a (i := 0) (v := ?_) rfl (by kernel_rfl) (by kernel_rfl) (by kernel_rfl) (fun _ _ _ h => h) (by rfl) ?_ ?_
  rotate_left
  · (intro w; go_simp; try with_reducible rfl)
  try simp only [Act.put, List.setIfInBounds_toArray, List.set_cons_zero, List.set_cons_succ]
  refine move_a (i := 1) (v := ?_) rfl (by kernel_rfl) (by kernel_rfl) (by kernel_rfl) (fun _ _ _ h => h) (by rfl) ?_ ?_
  rotate_left
  · (intro w; go_simp; try with_reducible rfl)
  try simp only [Act.put, List.setIfInBounds_toArray, List.set_cons_zero, List.set_cons_succ]
  refine move_a (i := 2) (v := ?_) rfl (by kernel_rfl) (by kernel_rfl) (by kernel_rfl) (fun _ _ _ h => h) (by rfl) ?_ ?_
  rotate_left
  · (intro w; go_simp; try with_reducible rfl)
  try simp only [Act.put, List.setIfInBounds_toArray, List.set_cons_zero, List.set_cons_succ]
  refine move_a (i := 4) (v := ?_) rfl (by kernel_rfl) (by kernel_rfl) (by kernel_rfl) (fun _ _ _ h => h) (by rfl) ?_ ?_
  rotate_left
  · (intro w; go_simp; try with_reducible rfl)
  try simp only [Act.put, List.setIfInBounds_toArray, List.set_cons_zero, List.set_cons_succ]
  refine move_a (i := 6) (v := ?_) rfl (by kernel_rfl) (by kernel_rfl) (by kernel_rfl) (fun _ _ _ h => h) (by rfl) ?_ ?_
  rotate_left
  · (intro w; go_simp; try with_reducible rfl)
  try simp only [Act.put, List.setIfInBounds_toArray, List.set_cons_zero, List.set_cons_succ]
  refine move_a (i := 7) (v := ?_) rfl (by kernel_rfl) (by kernel_rfl) (by kernel_rfl) (fun _ _ _ h => h) (by rfl) ?_ ?_
  rotate_left
  · (intro w; go_simp; try with_reducible rfl)
  try simp only [Act.put, List.setIfInBounds_toArray, List.set_cons_zero, List.set_cons_succ]
  refine move_a (i := 11) (v := ?_) rfl (by kernel_rfl) (by kernel_rfl) (by kernel_rfl) (fun _ _ _ h => h) (by rfl) ?_ ?_
  rotate_left
  · (intro w; go_simp; try with_reducible rfl)
  try simp only [Act.put, List.setIfInBounds_toArray, List.set_cons_zero, List.set_cons_succ]
  refine move_a (i := 12) (v := ?_) rfl (by kernel_rfl) (by kernel_rfl) (by kernel_rfl) (fun _ _ _ h => h) (by rfl) ?_ ?_
  rotate_left
  · (intro w; go_simp; try with_reducible rfl)
  try simp only [Act.put, List.setIfInBounds_toArray, List.set_cons_zero, List.set_cons_succ]
  refine move_c (i := 3) (by kernel_rfl) rfl (by rfl) (fun K hK => ?_)
  (go_simp; refine (C1.out _ B1.out).mono ?_; rintro e w3 ⟨A3, n3, c3, rfl, ho, hb⟩; have HO3 := Lib.hid ho; have B3 := Lib.hid hb; have BW3 := Lib.hid (B1.out.trans (hb.mono hs1)); clear ho hb)
  refine hK _ _ ?_
  clear hK K
  try simp only [Act.put, List.setIfInBounds_toArray, List.set_cons_zero, List.set_cons_succ]
  refine move_c (i := 5) (by kernel_rfl) rfl (by rfl) (fun K hK => ?_)
  (go_simp; refine (C2.out _ BW3.out).mono ?_; rintro e w4 ⟨A4, n4, c4, rfl, ho, hb⟩; have HO4 := Lib.hid ho; have B4 := Lib.hid hb; have HD4 := Lib.hid ((HD.out.drewd.below B3.out).below hb); have y0 := HD4.out.cells.1; have y2 := HD4.out.cells.2.2.1; have z0 := HD4.out.free 0; have z2 := HD4.out.free 2; clear ho hb)
  refine hK _ _ ?_
  clear hK K
  try simp only [Act.put, List.setIfInBounds_toArray, List.set_cons_zero, List.set_cons_succ]
  refine move_a (i := 8) (v := ?_) rfl (by kernel_rfl) (by kernel_rfl) (by kernel_rfl) (fun _ _ _ h => h) (by rfl) ?_ ?_
  rotate_left
  · (intro w; go_simp; try with_reducible rfl)
  try simp only [Act.put, List.setIfInBounds_toArray, List.set_cons_zero, List.set_cons_succ]
  refine move_a (i := 9) (v := ?_) rfl (by kernel_rfl) (by kernel_rfl) (by kernel_rfl) (fun _ _ _ h => h) (by rfl) ?_ ?_
  rotate_left
  · (intro w; go_simp; try with_reducible rfl)
  try simp only [Act.put, List.setIfInBounds_toArray, List.set_cons_zero, List.set_cons_succ]
  refine move_c (i := 10) (by kernel_rfl) rfl (by rfl) (fun K hK => ?_)
  go_simp
  refine hK _ _ ?_
  clear hK K
  try simp only [Act.put, List.setIfInBounds_toArray, List.set_cons_zero, List.set_cons_succ]
  refine move_a (i := 13) (v := ?_) rfl (by kernel_rfl) (by kernel_rfl) (by kernel_rfl) (fun _ _ _ h => h) (by rfl) ?_ ?_
  rotate_left
  · (intro w; go_simp; try with_reducible rfl)
  try simp only [Act.put, List.setIfInBounds_toArray, List.set_cons_zero, List.set_cons_succ]
  refine move_a (i := 14) (v := ?_) rfl (by kernel_rfl) (by kernel_rfl) (by kernel_rfl) (fun _ _ _ h => h) (by rfl) ?_ ?_
  rotate_left
  · (intro w; go_simp; try with_reducible rfl)
  try simp only [Act.put, List.setIfInBounds_toArray, List.set_cons_zero, List.set_cons_succ]
  refine move_c (i := 15) (by kernel_rfl) rfl (by rfl) (fun K hK => ?_)
  go_simp
  refine hK _ _ ?_
  clear hK K
  try simp only [Act.put, List.setIfInBounds_toArray, List.set_cons_zero, List.set_cons_succ]
  refine move_d (by kernel_rfl) ?_
  have hs3 := B3.out.size
  have hs1d : w1.heap.size = w1.drew.heap.size := rfl
  have hft := fun g (hg : Ft p cs g) => HD.out.ft hg
  have hk3 := OwB.blk HO3.out
  have hk4 := OwB.blk HO4.out
  have O3 : OwS w4 w.heap.size ⟨A3, n3, c3⟩ xs := OwB.less (HO3.out.below B4.out) (by omega)
  have O4 : OwS w4 w.heap.size ⟨A4, n4, c4⟩ ys := OwB.less HO4.out (by omega)
  have h5 := HD4.out.slotF (i := 0) (by omega) O3 (fun g e hg => by
    have h1 := hft g hg
    have h2 := hk3 g e
    omega)
  have hp4 := HD4.out.plt
  have hpw := HD.out.plt
  have hpp := HD.out.hp
  have O5 : OwS (w4.setCell ⟨p, 0, none⟩ (Sl.val ⟨A3, n3, c3⟩)) w.heap.size ⟨A4, n4, c4⟩ ys := O4.block fun g e => Below.heap_setCell _ _ _ _ (fun e2 => by
    have h2 := hk4 g e
    have e3 : g = p := e2
    omega)
  have h6 := h5.slotF (i := 2) (by omega) O5 (fun g e hg => by
    have h2 := hk4 g e
    rcases hg with h | ⟨j, hj, h⟩
    · omega
    · by_cases hj0 : j = 0
      · subst hj0
        rw [upd_same] at h
        have h3 := (hk3 g h).2
        omega
      · rw [upd_ne _ _ hj0] at h
        have h1 := hft g (.inr ⟨j, hj, h⟩)
        omega)
  have hfin : putB (putB (diskp.load [] []) 0 xs) 2 ys = diskp.load xs ys := by
    unfold putB diskp.load
    congr 1
    funext j
    unfold upd
    by_cases h2 : j = 2
    · subst h2; rfl
    · by_cases h0 : j = 0
      · subst h0; rfl
      · simp [h0, h2]
  rw [hfin] at h6
  have H6 := Lib.hid h6
  have B6 := Lib.hid (((BW3.out.trans (B4.out.mono BW3.out.size)).setCell (p := ⟨p, 0, none⟩) hpp (.slice A3 n3 c3)).setCell (p := ⟨p, 2, none⟩) hpp (.slice A4 n4 c4))
  clear h5 h6 hfin hft hk3 hk4 O3 O4 O5 y0 y2 z0 z2
  go_wp2
  go_ret
  exact ⟨p, _, rfl, H6.out, B6.out⟩
end Go.Proofs.Ytbmdglbhmianjaa.diskw
