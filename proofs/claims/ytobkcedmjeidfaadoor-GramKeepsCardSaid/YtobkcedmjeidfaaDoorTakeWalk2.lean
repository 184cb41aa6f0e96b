/- What wire.Take computes. -/
import Derived.Test.YtobkcedmjeidfaaDoorTakeWalk
set_option linter.unusedVariables false
set_option linter.unusedSimpArgs false
namespace Go.Proofs.YtobkcedmjeidfaaDoor.takew
open Go.RowKit Go.Proofs.YtobkcedmjeidfaaDoorW.PrintWords Go.Proofs.YtobkcedmjeidfaaDoor.base Go.Proofs.YtobkcedmjeidfaaDoor.mem Go.Proofs.YtobkcedmjeidfaaDoor.packp Go.Proofs.YtobkcedmjeidfaaDoor.packw Go.Proofs.YtobkcedmjeidfaaDoor.samew Go.Proofs.YtobkcedmjeidfaaDoor.wirep Go.Proofs.YtobkcedmjeidfaaDoor.wirew

def Res.val (r : Res) : Value := .tuple #[r.m.agg, .int .i64 r.n, .int .i64 r.e]
/-- a message's own block -/
def BoxH (w : World) (b : Nat) (m : M) : Prop := w.heap[b]? = some (.cells #[.int .i64 m.k, .int .i64 m.o, .int .i64 m.d, .int .i64 m.u, .int .i64 m.v] 24 (0, 0))
theorem BoxH.box {w : World} {b : Nat} {m : M} (h : BoxH w b m) : Box w b m := by
  unfold BoxH at h
  refine ⟨?_, ?_, ?_, ?_, ?_⟩ <;> (unfold World.cell?; rw [h]; rfl)
theorem BoxH.free {w : World} {b : Nat} {m : M} (h : BoxH w b m) (i : Nat) : w.frozen? ⟨b, i, none⟩ = false := by
  unfold BoxH at h
  unfold World.frozen?
  rw [h]
  simp
theorem BoxH.below {w w1 : World} {b : Nat} {m : M} (h : BoxH w b m) (hb : Below w.heap.size w w1) : BoxH w1 b m := by
  unfold BoxH at *
  rw [hb.block _ (Array.getElem?_eq_some_iff.1 h).1]; exact h
theorem BoxH.new (w : World) (s : Nat) (hs : w.heap.size = s) (k o d u v : Int) : BoxH (w.alloc (.cells #[.int .i64 k, .int .i64 o, .int .i64 d, .int .i64 u, .int .i64 v] 24)) s ⟨k, o, d, u, v⟩ := by
  subst hs
  show (w.heap.push _)[w.heap.size]? = _
  simp
theorem BoxH.other {w : World} {b b' : Nat} {m : M} (h : BoxH w b m) (hne : b' ≠ b) (i : Nat) (v : Value) : BoxH (w.setCell ⟨b', i, none⟩ v) b m := by
  unfold BoxH at *
  rw [Below.heap_setCell _ _ _ _ (fun e => hne e.symm)]; exact h
theorem BoxH.set0 {w : World} {b : Nat} {k o d u v : Int} (h : BoxH w b ⟨k, o, d, u, v⟩) (x : Int) : BoxH (w.setCell ⟨b, 0, none⟩ (.int .i64 x)) b ⟨x, o, d, u, v⟩ := by
  unfold BoxH at *; simp [World.setCell, h, Array.getElem?_modify]
theorem BoxH.set1 {w : World} {b : Nat} {k o d u v : Int} (h : BoxH w b ⟨k, o, d, u, v⟩) (x : Int) : BoxH (w.setCell ⟨b, 1, none⟩ (.int .i64 x)) b ⟨k, x, d, u, v⟩ := by
  unfold BoxH at *; simp [World.setCell, h, Array.getElem?_modify]
theorem BoxH.set2 {w : World} {b : Nat} {k o d u v : Int} (h : BoxH w b ⟨k, o, d, u, v⟩) (x : Int) : BoxH (w.setCell ⟨b, 2, none⟩ (.int .i64 x)) b ⟨k, o, x, u, v⟩ := by
  unfold BoxH at *; simp [World.setCell, h, Array.getElem?_modify]
theorem BoxH.set3 {w : World} {b : Nat} {k o d u v : Int} (h : BoxH w b ⟨k, o, d, u, v⟩) (x : Int) : BoxH (w.setCell ⟨b, 3, none⟩ (.int .i64 x)) b ⟨k, o, d, x, v⟩ := by
  unfold BoxH at *; simp [World.setCell, h, Array.getElem?_modify]
theorem BoxH.set4 {w : World} {b : Nat} {k o d u v : Int} (h : BoxH w b ⟨k, o, d, u, v⟩) (x : Int) : BoxH (w.setCell ⟨b, 4, none⟩ (.int .i64 x)) b ⟨k, o, d, u, x⟩ := by
  unfold BoxH at *; simp [World.setCell, h, Array.getElem?_modify]

theorem below5 {w wr : World} {b : Nat} (h : Below b w wr) (v0 v1 v2 v3 v4 : Value) : Below b w (((((wr.setCell ⟨b, 0, none⟩ v0).setCell ⟨b, 1, none⟩ v1).setCell ⟨b, 2, none⟩ v2).setCell ⟨b, 3, none⟩ v3).setCell ⟨b, 4, none⟩ v4) :=
  ((((h.setCell (p := ⟨b, 0, none⟩) (Nat.le_refl _) _).setCell (p := ⟨b, 1, none⟩) (Nat.le_refl _) _).setCell (p := ⟨b, 2, none⟩) (Nat.le_refl _) _).setCell (p := ⟨b, 3, none⟩) (Nat.le_refl _) _).setCell (p := ⟨b, 4, none⟩) (Nat.le_refl _) _
theorem results_row2 {P : Program} {fn : Func} {p u v : Tmp} {ty : TypeId} (h : fn.results = #[.cell p ty, .tmp u, .tmp v]) (tmps : Array Value) (w : World) (g : Nat) (t : TypeId) {cs : Array Value} (fr : Nat × Nat) (d : TypeDesc)
    (hp : tmps.getD p undef = .pointer (some ⟨g, 0, none⟩)) (hg : w.heap[g]? = some (.cells cs t fr))
    (hu : P.underlying ty = some d) (hd : (match d with | .struct _ | .array _ _ => true | _ => false) = true) (hi : (P.info? ty).map (·.size) = some cs.size) :
    (results fn tmps).run P w = .ok (.tuple #[.agg cs, tmps.getD u undef, tmps.getD v undef]) w := by
  have hp' : tmps[p]?.getD undef = .pointer (some ⟨g, 0, none⟩) := by simpa using hp
  simp [results, h, hp', asAddr, run_loadVar_row w g t ty cs fr d hg hu hd hi]
theorem ix0 (p0 p1 p2 p3 p4 : Option Addr) (W : World) : (Instr.index 62 (.agg #[.pointer p0, .pointer p1, .pointer p2, .pointer p3, .pointer p4]) (.int .i64 0)).run Tryd.prog W = .ok (.pointer p0) W := by
  simp [Instr.index, run_underlying Tryd.underlying62, asIntOf, go_sem]
theorem ix1 (p0 p1 p2 p3 p4 : Option Addr) (W : World) : (Instr.index 62 (.agg #[.pointer p0, .pointer p1, .pointer p2, .pointer p3, .pointer p4]) (.int .i64 1)).run Tryd.prog W = .ok (.pointer p1) W := by
  simp [Instr.index, run_underlying Tryd.underlying62, asIntOf, go_sem]
theorem ix2 (p0 p1 p2 p3 p4 : Option Addr) (W : World) : (Instr.index 62 (.agg #[.pointer p0, .pointer p1, .pointer p2, .pointer p3, .pointer p4]) (.int .i64 2)).run Tryd.prog W = .ok (.pointer p2) W := by
  simp [Instr.index, run_underlying Tryd.underlying62, asIntOf, go_sem]
theorem ix3 (p0 p1 p2 p3 p4 : Option Addr) (W : World) : (Instr.index 62 (.agg #[.pointer p0, .pointer p1, .pointer p2, .pointer p3, .pointer p4]) (.int .i64 3)).run Tryd.prog W = .ok (.pointer p3) W := by
  simp [Instr.index, run_underlying Tryd.underlying62, asIntOf, go_sem]
theorem ix4 (p0 p1 p2 p3 p4 : Option Addr) (W : World) : (Instr.index 62 (.agg #[.pointer p0, .pointer p1, .pointer p2, .pointer p3, .pointer p4]) (.int .i64 4)).run Tryd.prog W = .ok (.pointer p4) W := by
  simp [Instr.index, run_underlying Tryd.underlying62, asIntOf, go_sem]
set_option maxHeartbeats 2000000 in
theorem wtake_any (A : Option Addr) (n c : Nat) (xs : List Int) (w : World) (hr : RdB w A n xs) (hc : n ≤ c) :
    Calls Tryd.prog 33 #[.slice A n c] w fun e w' => e = .returned (Res.val (takeM xs)) ∧ Below w.heap.size w w' := by
  have HR := Lib.hid hr
  have hn := hr.max
  have HI := Lib.hid ((BoxH.new w w.heap.size rfl 0 0 0 0 0).below (below_alloc (Below.refl _ _) (.cells #[.int .i64 0, .int .i64 0, .int .i64 0, .int .i64 0, .int .i64 0] 24)))
  have HJ := Lib.hid (BoxH.new (w.alloc (.cells #[.int .i64 0, .int .i64 0, .int .i64 0, .int .i64 0, .int .i64 0] 24)) (w.heap.size + 1) (by simp) 0 0 0 0 0)
  have HBI := Lib.hid ((below_alloc (Below.refl w.heap.size w) (.cells #[.int .i64 0, .int .i64 0, .int .i64 0, .int .i64 0, .int .i64 0] 24)).alloc (by simp) (.cells #[.int .i64 0, .int .i64 0, .int .i64 0, .int .i64 0, .int .i64 0] 24))
  clear hr
  go_enter Tryd.func33, Tryd.ntmps33
  go_wp2
  go_step3
  go_wp2
  go_step3
  go_wp2
  go_loopw [6, 17] (fun at_ i wr => ∃ (zs : List Int) (p : Nat), zs.length ≤ 5 ∧ p ≤ n ∧ i = .int .i64 zs.length ∧ at_ = .int .i64 p ∧ Aside0 (res xs (5 - zs.length) zs p = takeM xs) ∧ Aside0 (BoxH wr (w.heap.size + 1) (mk zs)) ∧ Aside0 (BoxH wr w.heap.size zeroM) ∧ Aside0 (Below w.heap.size w wr)) (fun _ i _ => 5 - (intOf i).toNat)
  case atStart => exact ⟨[], 0, by simp, by omega, rfl, rfl, ⟨rfl⟩, ⟨HJ.out⟩, ⟨HI.out⟩, ⟨HBI.out⟩⟩
  case round =>
    obtain ⟨zs, p, hz, hp, rfl, rfl, HE, HM, HZ, HB⟩ := hrel
    match zs, hz with
    | [], _ =>
      obtain ⟨e0, e1, e2, e3, e4⟩ := HM.out.box
      obtain ⟨f0, f1, f2, f3, f4⟩ := HZ.out.box
      have m0 := HM.out.free 0
      have m1 := HM.out.free 1
      have m2 := HM.out.free 2
      have m3 := HM.out.free 3
      have m4 := HM.out.free 4
      have q0 := HZ.out.free 0
      have q1 := HZ.out.free 1
      have q2 := HZ.out.free 2
      have q3 := HZ.out.free 3
      have q4 := HZ.out.free 4
      simp only [mk, zeroM, List.getD_cons_zero, List.getD_cons_succ, List.getD_nil] at e0 e1 e2 e3 e4 f0 f1 f2 f3 f4
      have hix := fun W => ix0 (some ⟨w.heap.size + 1, 0, none⟩) (some ⟨w.heap.size + 1, 1, none⟩) (some ⟨w.heap.size + 1, 2, none⟩) (some ⟨w.heap.size + 1, 3, none⟩) (some ⟨w.heap.size + 1, 4, none⟩) W
      obtain ⟨A2, n2, c2, hcut, hm1, hm2, hm3, hrd⟩ := cutL A n c p hp hc
      have HT := Lib.hid (fun W (h : RdB W A n xs) => take_any A2 n2 c2 (xs.drop p) W (hrd W xs h))
      have HF := Lib.hid (fun W (h : RdB W A n xs) => fault_any A2 n2 c2 (xs.drop p) W (hrd W xs h))
      have HRw := Lib.hid (HR.out.below HB.out)
      have hd := dec_len (xs.drop p) (HR.out.2.drop p)
      rw [List.length_drop, HR.out.len] at hd
      obtain ⟨x, hx⟩ : ∃ x, (dec 0 (xs.drop p)).1 = x := ⟨_, rfl⟩
      obtain ⟨q, hq⟩ : ∃ q, (dec 0 (xs.drop p)).2 = q := ⟨_, rfl⟩
      rw [hx, hq] at HT
      rw [hq] at hd
      have HX := Lib.hid hx
      have HQ := Lib.hid hq
      clear hx hq hrd
      by_cases h0 : q = 0
      · have HR0 := Lib.hid ((res_short (f := 4) (zs := []) (by rfl) (HQ.out.trans h0)).symm.trans HE.out)
        subst h0
        clear hd
        go_wp2_with (first | (go_at_call 31; refine (HT.out _ HRw.out).mono ?_; rintro e w' ⟨rfl, rfl⟩) | (go_at_call 32; refine (HF.out _ HRw.out).mono ?_; rintro e w' ⟨rfl, rfl⟩))
        try rw [Exit.noGoto_ret]
        try simp only [Exit.inBlock, Exit.then]
        refine bodyPost_ret_by (results_row2 rfl _ _ w.heap.size 24 (0, 0) _ rfl (((((HZ.out.set0 0).set1 0).set2 0).set3 0).set4 0) Tryd.underlying24 rfl (by kernel_rfl)) rfl ?_
        exact ⟨by rw [← HR0.out]; rfl, below5 HB.out _ _ _ _ _⟩
      · have HRS := Aside0.mk ((res_step (f := 4) (zs := []) (by rfl) HX.out HQ.out h0).symm.trans HE.out)
        have hqb : ((q : Int) == 0) = false := beq_eq_false_iff_ne.2 (by omega)
        go_wp2_with (first | (go_at_call 31; refine (HT.out _ HRw.out).mono ?_; rintro e w' ⟨rfl, rfl⟩))
        go_roundw
        case rel => exact ⟨[x], p + q, by simp, by omega, rfl, by go_num, HRS, ⟨HM.out.set0 x⟩, ⟨HZ.out.other (Nat.succ_ne_self _) _ _⟩, ⟨HB.out.setCell (p := ⟨w.heap.size + 1, 0, none⟩) (by show w.heap.size ≤ w.heap.size + 1; omega) _⟩⟩
        case measure => simp [intOf]
    | [z0], _ =>
      obtain ⟨e0, e1, e2, e3, e4⟩ := HM.out.box
      obtain ⟨f0, f1, f2, f3, f4⟩ := HZ.out.box
      have m0 := HM.out.free 0
      have m1 := HM.out.free 1
      have m2 := HM.out.free 2
      have m3 := HM.out.free 3
      have m4 := HM.out.free 4
      have q0 := HZ.out.free 0
      have q1 := HZ.out.free 1
      have q2 := HZ.out.free 2
      have q3 := HZ.out.free 3
      have q4 := HZ.out.free 4
      simp only [mk, zeroM, List.getD_cons_zero, List.getD_cons_succ, List.getD_nil] at e0 e1 e2 e3 e4 f0 f1 f2 f3 f4
      have hix := fun W => ix1 (some ⟨w.heap.size + 1, 0, none⟩) (some ⟨w.heap.size + 1, 1, none⟩) (some ⟨w.heap.size + 1, 2, none⟩) (some ⟨w.heap.size + 1, 3, none⟩) (some ⟨w.heap.size + 1, 4, none⟩) W
      obtain ⟨A2, n2, c2, hcut, hm1, hm2, hm3, hrd⟩ := cutL A n c p hp hc
      have HT := Lib.hid (fun W (h : RdB W A n xs) => take_any A2 n2 c2 (xs.drop p) W (hrd W xs h))
      have HF := Lib.hid (fun W (h : RdB W A n xs) => fault_any A2 n2 c2 (xs.drop p) W (hrd W xs h))
      have HRw := Lib.hid (HR.out.below HB.out)
      have hd := dec_len (xs.drop p) (HR.out.2.drop p)
      rw [List.length_drop, HR.out.len] at hd
      obtain ⟨x, hx⟩ : ∃ x, (dec 0 (xs.drop p)).1 = x := ⟨_, rfl⟩
      obtain ⟨q, hq⟩ : ∃ q, (dec 0 (xs.drop p)).2 = q := ⟨_, rfl⟩
      rw [hx, hq] at HT
      rw [hq] at hd
      have HX := Lib.hid hx
      have HQ := Lib.hid hq
      clear hx hq hrd
      by_cases h0 : q = 0
      · have HR0 := Lib.hid ((res_short (f := 3) (zs := [z0]) (by rfl) (HQ.out.trans h0)).symm.trans HE.out)
        subst h0
        clear hd
        go_wp2_with (first | (go_at_call 31; refine (HT.out _ HRw.out).mono ?_; rintro e w' ⟨rfl, rfl⟩) | (go_at_call 32; refine (HF.out _ HRw.out).mono ?_; rintro e w' ⟨rfl, rfl⟩))
        try rw [Exit.noGoto_ret]
        try simp only [Exit.inBlock, Exit.then]
        refine bodyPost_ret_by (results_row2 rfl _ _ w.heap.size 24 (0, 0) _ rfl (((((HZ.out.set0 0).set1 0).set2 0).set3 0).set4 0) Tryd.underlying24 rfl (by kernel_rfl)) rfl ?_
        exact ⟨by rw [← HR0.out]; rfl, below5 HB.out _ _ _ _ _⟩
      · have HRS := Aside0.mk ((res_step (f := 3) (zs := [z0]) (by rfl) HX.out HQ.out h0).symm.trans HE.out)
        have hqb : ((q : Int) == 0) = false := beq_eq_false_iff_ne.2 (by omega)
        go_wp2_with (first | (go_at_call 31; refine (HT.out _ HRw.out).mono ?_; rintro e w' ⟨rfl, rfl⟩))
        go_roundw
        case rel => exact ⟨[z0, x], p + q, by simp, by omega, rfl, by go_num, HRS, ⟨HM.out.set1 x⟩, ⟨HZ.out.other (Nat.succ_ne_self _) _ _⟩, ⟨HB.out.setCell (p := ⟨w.heap.size + 1, 1, none⟩) (by show w.heap.size ≤ w.heap.size + 1; omega) _⟩⟩
        case measure => simp [intOf]
    | [z0, z1], _ =>
      obtain ⟨e0, e1, e2, e3, e4⟩ := HM.out.box
      obtain ⟨f0, f1, f2, f3, f4⟩ := HZ.out.box
      have m0 := HM.out.free 0
      have m1 := HM.out.free 1
      have m2 := HM.out.free 2
      have m3 := HM.out.free 3
      have m4 := HM.out.free 4
      have q0 := HZ.out.free 0
      have q1 := HZ.out.free 1
      have q2 := HZ.out.free 2
      have q3 := HZ.out.free 3
      have q4 := HZ.out.free 4
      simp only [mk, zeroM, List.getD_cons_zero, List.getD_cons_succ, List.getD_nil] at e0 e1 e2 e3 e4 f0 f1 f2 f3 f4
      have hix := fun W => ix2 (some ⟨w.heap.size + 1, 0, none⟩) (some ⟨w.heap.size + 1, 1, none⟩) (some ⟨w.heap.size + 1, 2, none⟩) (some ⟨w.heap.size + 1, 3, none⟩) (some ⟨w.heap.size + 1, 4, none⟩) W
      obtain ⟨A2, n2, c2, hcut, hm1, hm2, hm3, hrd⟩ := cutL A n c p hp hc
      have HT := Lib.hid (fun W (h : RdB W A n xs) => take_any A2 n2 c2 (xs.drop p) W (hrd W xs h))
      have HF := Lib.hid (fun W (h : RdB W A n xs) => fault_any A2 n2 c2 (xs.drop p) W (hrd W xs h))
      have HRw := Lib.hid (HR.out.below HB.out)
      have hd := dec_len (xs.drop p) (HR.out.2.drop p)
      rw [List.length_drop, HR.out.len] at hd
      obtain ⟨x, hx⟩ : ∃ x, (dec 0 (xs.drop p)).1 = x := ⟨_, rfl⟩
      obtain ⟨q, hq⟩ : ∃ q, (dec 0 (xs.drop p)).2 = q := ⟨_, rfl⟩
      rw [hx, hq] at HT
      rw [hq] at hd
      have HX := Lib.hid hx
      have HQ := Lib.hid hq
      clear hx hq hrd
      by_cases h0 : q = 0
      · have HR0 := Lib.hid ((res_short (f := 2) (zs := [z0, z1]) (by rfl) (HQ.out.trans h0)).symm.trans HE.out)
        subst h0
        clear hd
        go_wp2_with (first | (go_at_call 31; refine (HT.out _ HRw.out).mono ?_; rintro e w' ⟨rfl, rfl⟩) | (go_at_call 32; refine (HF.out _ HRw.out).mono ?_; rintro e w' ⟨rfl, rfl⟩))
        try rw [Exit.noGoto_ret]
        try simp only [Exit.inBlock, Exit.then]
        refine bodyPost_ret_by (results_row2 rfl _ _ w.heap.size 24 (0, 0) _ rfl (((((HZ.out.set0 0).set1 0).set2 0).set3 0).set4 0) Tryd.underlying24 rfl (by kernel_rfl)) rfl ?_
        exact ⟨by rw [← HR0.out]; rfl, below5 HB.out _ _ _ _ _⟩
      · have HRS := Aside0.mk ((res_step (f := 2) (zs := [z0, z1]) (by rfl) HX.out HQ.out h0).symm.trans HE.out)
        have hqb : ((q : Int) == 0) = false := beq_eq_false_iff_ne.2 (by omega)
        go_wp2_with (first | (go_at_call 31; refine (HT.out _ HRw.out).mono ?_; rintro e w' ⟨rfl, rfl⟩))
        go_roundw
        case rel => exact ⟨[z0, z1, x], p + q, by simp, by omega, rfl, by go_num, HRS, ⟨HM.out.set2 x⟩, ⟨HZ.out.other (Nat.succ_ne_self _) _ _⟩, ⟨HB.out.setCell (p := ⟨w.heap.size + 1, 2, none⟩) (by show w.heap.size ≤ w.heap.size + 1; omega) _⟩⟩
        case measure => simp [intOf]
    | [z0, z1, z2], _ =>
      obtain ⟨e0, e1, e2, e3, e4⟩ := HM.out.box
      obtain ⟨f0, f1, f2, f3, f4⟩ := HZ.out.box
      have m0 := HM.out.free 0
      have m1 := HM.out.free 1
      have m2 := HM.out.free 2
      have m3 := HM.out.free 3
      have m4 := HM.out.free 4
      have q0 := HZ.out.free 0
      have q1 := HZ.out.free 1
      have q2 := HZ.out.free 2
      have q3 := HZ.out.free 3
      have q4 := HZ.out.free 4
      simp only [mk, zeroM, List.getD_cons_zero, List.getD_cons_succ, List.getD_nil] at e0 e1 e2 e3 e4 f0 f1 f2 f3 f4
      have hix := fun W => ix3 (some ⟨w.heap.size + 1, 0, none⟩) (some ⟨w.heap.size + 1, 1, none⟩) (some ⟨w.heap.size + 1, 2, none⟩) (some ⟨w.heap.size + 1, 3, none⟩) (some ⟨w.heap.size + 1, 4, none⟩) W
      obtain ⟨A2, n2, c2, hcut, hm1, hm2, hm3, hrd⟩ := cutL A n c p hp hc
      have HT := Lib.hid (fun W (h : RdB W A n xs) => take_any A2 n2 c2 (xs.drop p) W (hrd W xs h))
      have HF := Lib.hid (fun W (h : RdB W A n xs) => fault_any A2 n2 c2 (xs.drop p) W (hrd W xs h))
      have HRw := Lib.hid (HR.out.below HB.out)
      have hd := dec_len (xs.drop p) (HR.out.2.drop p)
      rw [List.length_drop, HR.out.len] at hd
      obtain ⟨x, hx⟩ : ∃ x, (dec 0 (xs.drop p)).1 = x := ⟨_, rfl⟩
      obtain ⟨q, hq⟩ : ∃ q, (dec 0 (xs.drop p)).2 = q := ⟨_, rfl⟩
      rw [hx, hq] at HT
      rw [hq] at hd
      have HX := Lib.hid hx
      have HQ := Lib.hid hq
      clear hx hq hrd
      by_cases h0 : q = 0
      · have HR0 := Lib.hid ((res_short (f := 1) (zs := [z0, z1, z2]) (by rfl) (HQ.out.trans h0)).symm.trans HE.out)
        subst h0
        clear hd
        go_wp2_with (first | (go_at_call 31; refine (HT.out _ HRw.out).mono ?_; rintro e w' ⟨rfl, rfl⟩) | (go_at_call 32; refine (HF.out _ HRw.out).mono ?_; rintro e w' ⟨rfl, rfl⟩))
        try rw [Exit.noGoto_ret]
        try simp only [Exit.inBlock, Exit.then]
        refine bodyPost_ret_by (results_row2 rfl _ _ w.heap.size 24 (0, 0) _ rfl (((((HZ.out.set0 0).set1 0).set2 0).set3 0).set4 0) Tryd.underlying24 rfl (by kernel_rfl)) rfl ?_
        exact ⟨by rw [← HR0.out]; rfl, below5 HB.out _ _ _ _ _⟩
      · have HRS := Aside0.mk ((res_step (f := 1) (zs := [z0, z1, z2]) (by rfl) HX.out HQ.out h0).symm.trans HE.out)
        have hqb : ((q : Int) == 0) = false := beq_eq_false_iff_ne.2 (by omega)
        go_wp2_with (first | (go_at_call 31; refine (HT.out _ HRw.out).mono ?_; rintro e w' ⟨rfl, rfl⟩))
        go_roundw
        case rel => exact ⟨[z0, z1, z2, x], p + q, by simp, by omega, rfl, by go_num, HRS, ⟨HM.out.set3 x⟩, ⟨HZ.out.other (Nat.succ_ne_self _) _ _⟩, ⟨HB.out.setCell (p := ⟨w.heap.size + 1, 3, none⟩) (by show w.heap.size ≤ w.heap.size + 1; omega) _⟩⟩
        case measure => simp [intOf]
    | [z0, z1, z2, z3], _ =>
      obtain ⟨e0, e1, e2, e3, e4⟩ := HM.out.box
      obtain ⟨f0, f1, f2, f3, f4⟩ := HZ.out.box
      have m0 := HM.out.free 0
      have m1 := HM.out.free 1
      have m2 := HM.out.free 2
      have m3 := HM.out.free 3
      have m4 := HM.out.free 4
      have q0 := HZ.out.free 0
      have q1 := HZ.out.free 1
      have q2 := HZ.out.free 2
      have q3 := HZ.out.free 3
      have q4 := HZ.out.free 4
      simp only [mk, zeroM, List.getD_cons_zero, List.getD_cons_succ, List.getD_nil] at e0 e1 e2 e3 e4 f0 f1 f2 f3 f4
      have hix := fun W => ix4 (some ⟨w.heap.size + 1, 0, none⟩) (some ⟨w.heap.size + 1, 1, none⟩) (some ⟨w.heap.size + 1, 2, none⟩) (some ⟨w.heap.size + 1, 3, none⟩) (some ⟨w.heap.size + 1, 4, none⟩) W
      by_cases h4 : z0 = 4
      · subst h4
        obtain ⟨A2, n2, c2, hcut, hm1, hm2, hm3, hrd⟩ := cutL A n c p hp hc
        have HT := Lib.hid (fun W (h : RdB W A n xs) => take_any A2 n2 c2 (xs.drop p) W (hrd W xs h))
        have HF := Lib.hid (fun W (h : RdB W A n xs) => fault_any A2 n2 c2 (xs.drop p) W (hrd W xs h))
        have HRw := Lib.hid (HR.out.below HB.out)
        have hd := dec_len (xs.drop p) (HR.out.2.drop p)
        rw [List.length_drop, HR.out.len] at hd
        obtain ⟨x, hx⟩ : ∃ x, (dec 0 (xs.drop p)).1 = x := ⟨_, rfl⟩
        obtain ⟨q, hq⟩ : ∃ q, (dec 0 (xs.drop p)).2 = q := ⟨_, rfl⟩
        rw [hx, hq] at HT
        rw [hq] at hd
        have HX := Lib.hid hx
        have HQ := Lib.hid hq
        clear hx hq hrd
        by_cases h0 : q = 0
        · have HR0 := Lib.hid ((res_short (f := 0) (zs := [4, z1, z2, z3]) (by rfl) (HQ.out.trans h0)).symm.trans HE.out)
          subst h0
          clear hd
          go_wp2_with (first | (go_at_call 31; refine (HT.out _ HRw.out).mono ?_; rintro e w' ⟨rfl, rfl⟩) | (go_at_call 32; refine (HF.out _ HRw.out).mono ?_; rintro e w' ⟨rfl, rfl⟩))
          try rw [Exit.noGoto_ret]
          try simp only [Exit.inBlock, Exit.then]
          refine bodyPost_ret_by (results_row2 rfl _ _ w.heap.size 24 (0, 0) _ rfl (((((HZ.out.set0 0).set1 0).set2 0).set3 0).set4 0) Tryd.underlying24 rfl (by kernel_rfl)) rfl ?_
          exact ⟨by rw [← HR0.out]; rfl, below5 HB.out _ _ _ _ _⟩
        · have HRS := Aside0.mk ((res_step (f := 0) (zs := [4, z1, z2, z3]) (by rfl) HX.out HQ.out h0).symm.trans HE.out)
          have hqb : ((q : Int) == 0) = false := beq_eq_false_iff_ne.2 (by omega)
          go_wp2_with (first | (go_at_call 31; refine (HT.out _ HRw.out).mono ?_; rintro e w' ⟨rfl, rfl⟩))
          go_roundw
          case rel => exact ⟨[4, z1, z2, z3, x], p + q, by simp, by omega, rfl, by go_num, HRS, ⟨HM.out.set4 x⟩, ⟨HZ.out.other (Nat.succ_ne_self _) _ _⟩, ⟨HB.out.setCell (p := ⟨w.heap.size + 1, 4, none⟩) (by show w.heap.size ≤ w.heap.size + 1; omega) _⟩⟩
          case measure => simp [intOf]
      · have h4b : (z0 == 4) = false := beq_eq_false_iff_ne.2 h4
        have NM : Hid (more [z0, z1, z2, z3] = false) := Lib.hid (by unfold more; simp [h4b])
        have HE2 : Hid (fin [z0, z1, z2, z3] p = takeM xs) := Lib.hid ((res_fin (f := 1) (zs := [z0, z1, z2, z3]) NM.out).symm.trans HE.out)
        have HV := Lib.hid (valid_any (mk [z0, z1, z2, z3]) wr)
        cases hv : (mk [z0, z1, z2, z3]).valid
        · have HR0 := Lib.hid ((fin_bad hv).symm.trans HE2.out)
          rw [hv] at HV
          go_wp2_with fail
          refine HV.out.mono ?_
          rintro e w3 ⟨rfl, hb⟩
          have HZ3 := Lib.hid (HZ.out.below hb)
          have HB3 := HB.out.trans (hb.mono HB.out.size)
          obtain ⟨f0, f1, f2, f3, f4⟩ := HZ3.out.box
          have q0 := HZ3.out.free 0
          have q1 := HZ3.out.free 1
          have q2 := HZ3.out.free 2
          have q3 := HZ3.out.free 3
          have q4 := HZ3.out.free 4
          simp only [zeroM] at f0 f1 f2 f3 f4
          have HBx := Lib.hid HB3
          clear hb HB3
          go_wp2
          try rw [Exit.noGoto_ret]
          try simp only [Exit.inBlock, Exit.then]
          refine bodyPost_ret_by (results_row2 rfl _ _ w.heap.size 24 (0, 0) _ rfl (((((HZ3.out.set0 0).set1 0).set2 0).set3 0).set4 0) Tryd.underlying24 rfl (by kernel_rfl)) rfl ?_
          exact ⟨by rw [← HR0.out]; rfl, below5 HBx.out _ _ _ _ _⟩
        · have HR0 := Lib.hid ((fin_good hv).symm.trans HE2.out)
          rw [hv] at HV
          go_wp2_with fail
          refine HV.out.mono ?_
          rintro e w3 ⟨rfl, hb⟩
          have HZ3 := Lib.hid (HZ.out.below hb)
          have HM3 := HM.out.below hb
          have HB3 := HB.out.trans (hb.mono HB.out.size)
          obtain ⟨f0, f1, f2, f3, f4⟩ := HZ3.out.box
          have q0 := HZ3.out.free 0
          have q1 := HZ3.out.free 1
          have q2 := HZ3.out.free 2
          have q3 := HZ3.out.free 3
          have q4 := HZ3.out.free 4
          obtain ⟨e0, e1, e2, e3, e4⟩ := HM3.box
          simp only [mk, zeroM, List.getD_cons_zero, List.getD_cons_succ, List.getD_nil] at e0 e1 e2 e3 e4 f0 f1 f2 f3 f4
          have HBx := Lib.hid HB3
          clear hb HB3 HM3
          go_wp2
          try rw [Exit.noGoto_ret]
          try simp only [Exit.inBlock, Exit.then]
          refine bodyPost_ret_by (results_row2 rfl _ _ w.heap.size 24 (0, 0) _ rfl (((((HZ3.out.set0 z0).set1 z1).set2 z2).set3 z3).set4 0) Tryd.underlying24 rfl (by kernel_rfl)) rfl ?_
          exact ⟨by rw [← HR0.out]; rfl, below5 HBx.out _ _ _ _ _⟩
    | [z0, z1, z2, z3, z4], _ =>
      obtain ⟨e0, e1, e2, e3, e4⟩ := HM.out.box
      obtain ⟨f0, f1, f2, f3, f4⟩ := HZ.out.box
      have m0 := HM.out.free 0
      have m1 := HM.out.free 1
      have m2 := HM.out.free 2
      have m3 := HM.out.free 3
      have m4 := HM.out.free 4
      have q0 := HZ.out.free 0
      have q1 := HZ.out.free 1
      have q2 := HZ.out.free 2
      have q3 := HZ.out.free 3
      have q4 := HZ.out.free 4
      simp only [mk, zeroM, List.getD_cons_zero, List.getD_cons_succ, List.getD_nil] at e0 e1 e2 e3 e4 f0 f1 f2 f3 f4
      have hix := fun W => ix4 (some ⟨w.heap.size + 1, 0, none⟩) (some ⟨w.heap.size + 1, 1, none⟩) (some ⟨w.heap.size + 1, 2, none⟩) (some ⟨w.heap.size + 1, 3, none⟩) (some ⟨w.heap.size + 1, 4, none⟩) W
      have HE2 : Hid (fin [z0, z1, z2, z3, z4] p = takeM xs) := Lib.hid ((res_fin (f := 0) (zs := [z0, z1, z2, z3, z4]) (by rfl)).symm.trans HE.out)
      have HV := Lib.hid (valid_any (mk [z0, z1, z2, z3, z4]) wr)
      cases hv : (mk [z0, z1, z2, z3, z4]).valid
      · have HR0 := Lib.hid ((fin_bad hv).symm.trans HE2.out)
        rw [hv] at HV
        go_wp2_with fail
        refine HV.out.mono ?_
        rintro e w3 ⟨rfl, hb⟩
        have HZ3 := Lib.hid (HZ.out.below hb)
        have HB3 := HB.out.trans (hb.mono HB.out.size)
        obtain ⟨f0, f1, f2, f3, f4⟩ := HZ3.out.box
        have q0 := HZ3.out.free 0
        have q1 := HZ3.out.free 1
        have q2 := HZ3.out.free 2
        have q3 := HZ3.out.free 3
        have q4 := HZ3.out.free 4
        simp only [zeroM] at f0 f1 f2 f3 f4
        have HBx := Lib.hid HB3
        clear hb HB3
        go_wp2
        try rw [Exit.noGoto_ret]
        try simp only [Exit.inBlock, Exit.then]
        refine bodyPost_ret_by (results_row2 rfl _ _ w.heap.size 24 (0, 0) _ rfl (((((HZ3.out.set0 0).set1 0).set2 0).set3 0).set4 0) Tryd.underlying24 rfl (by kernel_rfl)) rfl ?_
        exact ⟨by rw [← HR0.out]; rfl, below5 HBx.out _ _ _ _ _⟩
      · have HR0 := Lib.hid ((fin_good hv).symm.trans HE2.out)
        rw [hv] at HV
        go_wp2_with fail
        refine HV.out.mono ?_
        rintro e w3 ⟨rfl, hb⟩
        have HZ3 := Lib.hid (HZ.out.below hb)
        have HM3 := HM.out.below hb
        have HB3 := HB.out.trans (hb.mono HB.out.size)
        obtain ⟨f0, f1, f2, f3, f4⟩ := HZ3.out.box
        have q0 := HZ3.out.free 0
        have q1 := HZ3.out.free 1
        have q2 := HZ3.out.free 2
        have q3 := HZ3.out.free 3
        have q4 := HZ3.out.free 4
        obtain ⟨e0, e1, e2, e3, e4⟩ := HM3.box
        simp only [mk, zeroM, List.getD_cons_zero, List.getD_cons_succ, List.getD_nil] at e0 e1 e2 e3 e4 f0 f1 f2 f3 f4
        have HBx := Lib.hid HB3
        clear hb HB3 HM3
        go_wp2
        try rw [Exit.noGoto_ret]
        try simp only [Exit.inBlock, Exit.then]
        refine bodyPost_ret_by (results_row2 rfl _ _ w.heap.size 24 (0, 0) _ rfl (((((HZ3.out.set0 z0).set1 z1).set2 z2).set3 z3).set4 z4) Tryd.underlying24 rfl (by kernel_rfl)) rfl ?_
        exact ⟨by rw [← HR0.out]; rfl, below5 HBx.out _ _ _ _ _⟩
end Go.Proofs.YtobkcedmjeidfaaDoor.takew
