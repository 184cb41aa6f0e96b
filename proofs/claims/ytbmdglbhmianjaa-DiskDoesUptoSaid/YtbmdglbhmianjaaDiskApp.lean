/- What the disk's Append and Sync compute. -/
import Derived.Test.YtbmdglbhmianjaaDiskOff
import Derived.StillTailTactics
set_option linter.unusedVariables false
set_option linter.unusedSimpArgs false
namespace Go.Proofs.Ytbmdglbhmianjaa.diskw
open Go.RowKit Go.Proofs.YtbmdglbhmianjaaW.PrintWords Go.Proofs.Ytbmdglbhmianjaa.base Go.Proofs.Ytbmdglbhmianjaa.mem Go.Proofs.Ytbmdglbhmianjaa.keep Go.Proofs.Ytbmdglbhmianjaa.diskp Go.Proofs.Ytbmdglbhmianjaa.diskr Go.Proofs.Ytbmdglbhmianjaa.ordt

/-- what bounds a disk's numbers -/
structure Fit (d : D) : Prop where
  b : Small d.b
  n : 0 ≤ d.n ∧ d.n ≤ 4611686018427387904
  a : 0 ≤ d.a ∧ d.a ≤ 9223372036854775807
  k : -9223372036854775808 ≤ d.k ∧ d.k ≤ 9223372036854775807
theorem rawD_off (d : D) : (rawD d).1.off = d.off ∧ (rawD d).1.b = d.b ∧ (rawD d).1.k = d.k := by unfold rawD; split <;> exact ⟨rfl, rfl, rfl⟩
theorem rawD_put (d : D) (i : Nat) (ys : List Int) : (rawD (putB d i ys)).2 = (rawD d).2 := by unfold rawD putB; split <;> rfl
/-- a raw write behind which the power may go: what Append and Sync and Truncate do after it -/
theorem Fit.raw {d : D} (h : Fit d) : Small (rawD d).1.b := by rw [(rawD_off d).2.1]; exact h.b
def appR (d : D) (f : Int) (ys : List Int) : D × Int := if rdy d f ≠ 0 then (d, rdy d f) else (appD d f.toNat ys, ans (rawD d).2)
def syncR (d : D) (f : Int) : D × Int := if rdy d f ≠ 0 then (d, rdy d f) else (syncD d f.toNat, ans (rawD d).2)
theorem rdy_ok {d : D} {f : Int} (h : rdy d f = 0) : ∃ i : Nat, f = i ∧ i < 2 ∧ d.off = false := by
  unfold rdy at h
  split at h
  · cases h
  · rename_i h1
    split at h
    · cases h
    · rename_i h2
      have h3 : ¬ f < 0 := fun e => h1 (.inl e)
      have h4 : ¬ 1 < f := fun e => h1 (.inr e)
      exact ⟨f.toNat, by omega, by omega, by simpa using h2⟩
set_option maxHeartbeats 2000000 in
theorem append_any {w : World} {base p : Nat} {cs : Nat → Sl} {d : D} (h : DAt w base p cs d) (hd : Fit d) (f : Int) (A : Option Addr) (m c : Nat) (ys : List Int) (hr : RdB w A m ys) (hsz : ∀ i, i < 4 → (d.b i).length + m ≤ 17592186044416) :
    Calls Try.prog 11 #[.pointer (some ⟨p, 0, none⟩), .int .i64 f, .slice A m c] w (RetD w base p cs (.int .i64 (appR d f ys).2) (appR d f ys).1) := by
  have HRD := Lib.hid (ready_any h f)
  have H := Lib.hid h
  have HR := Lib.hid hr
  have HA : Hid (appR d f ys = if rdy d f ≠ 0 then (d, rdy d f) else (appD d f.toNat ys, ans (rawD d).2)) := Lib.hid rfl
  by_cases h0 : rdy d f = 0
  · obtain ⟨i, rfl, hi, hoff⟩ := rdy_ok h0
    have HA := Lib.hid (HA.out.trans (if_neg (fun e => e h0)))
    rw [h0] at HRD
    have e1 := h.at1 hi
    have f1 := h.free (i * 2 + 1)
    have RW : Hid (OwB w base (cs (2 * i + 1)).A (cs (2 * i + 1)).n (cs (2 * i + 1)).c (d.b (2 * i + 1))) := Lib.hid (h.row (2 * i + 1) (by omega))
    have hbs := h.base_le
    have hpl := h.plt
    have hnp := Lib.hid (h.np (2 * i + 1) (by omega))
    have hl := hsz (2 * i + 1) (by omega)
    have hwl := RW.out.len
    rw [hwl] at hl
    have HSZ := Lib.hid hsz
    have HD := Lib.hid hd
    have HSL := Lib.hid (fun A1 n1 c1 zs w1 (hg : w.grownBy w1 (cs (2 * i + 1)).own) (hx : OwB w1 base A1 n1 c1 zs) (ho : ∀ g, (Value.slice A1 n1 c1).ownBlock = some g → (cs (2 * i + 1)).own = some g ∨ w.heap.size ≤ g) => h.slot (i := 2 * i + 1) (x := ⟨A1, n1, c1⟩) (by omega) hg hx ho)
    have HOWN : Hid ((cs (2 * i + 1)).own = (Value.slice (cs (2 * i + 1)).A (cs (2 * i + 1)).n (cs (2 * i + 1)).c).ownBlock) := Lib.hid rfl
    have hml := hr.len
    have hii : (i : Int) < 2 := by omega
    clear h hd hr hsz h0 hwl hoff
    generalize (cs (2 * i + 1)).A = wA at *
    generalize (cs (2 * i + 1)).n = wn at *
    generalize (cs (2 * i + 1)).c = wc at *
    go_enter Try.func11, Try.ntmps11
    go_wp2_with fail
    refine HRD.out.mono ?_
    rintro e w' ⟨rfl, rfl⟩
    go_wp2_with fail
    -- REGION
    have D0 : Hid (Below w.heap.size w w.drew) := Lib.hid (Below.refl _ _).drew
    refine begin_ (fun W : World => W.cell? ⟨p, i * 2 + 1, none⟩ = some (.slice wA wn wc)) [10, 15] (by kernel_rfl) ?_
    have hSw : (fun W : World => W.cell? ⟨p, i * 2 + 1, none⟩ = some (.slice wA wn wc)) w.drew := e1
    simp only [List.size_toArray, List.length_cons, List.length_nil, Nat.reduceAdd, Array.replicate_succ, Array.replicate_zero, List.push_toArray, List.append_toArray, List.nil_append, List.cons_append]
    refine move_a (i := 0) (v := ?_) rfl (by kernel_rfl) (by kernel_rfl) (by kernel_rfl) (fun _ _ _ h => h) (by rfl) ?_ ?_
    rotate_left
    · (intro w; go_simp; try with_reducible rfl)
    try simp only [Act.put, List.setIfInBounds_toArray, List.set_cons_zero, List.set_cons_succ]
    refine move_a (i := 1) (v := ?_) rfl (by kernel_rfl) (by kernel_rfl) (by kernel_rfl) (fun _ _ _ h => h) (by rfl) ?_ ?_
    rotate_left
    · (intro w; go_simp; try with_reducible rfl)
    try simp only [Act.put, List.setIfInBounds_toArray, List.set_cons_zero, List.set_cons_succ]
    refine move_a (i := 2) (v := ?_) rfl (by kernel_rfl) (by kernel_rfl) (by kernel_rfl) (fun _ _ _ h => h) (by rfl) ?_ ?_
    rotate_left
    · (intro w; go_simp; try with_reducible rfl)
    try simp only [Act.put, List.setIfInBounds_toArray, List.set_cons_zero, List.set_cons_succ]
    refine move_a (i := 3) (v := ?_) rfl (by kernel_rfl) (by kernel_rfl) (by kernel_rfl) (fun _ _ _ h => h) (by rfl) ?_ ?_
    rotate_left
    · (intro w; go_simp; try with_reducible rfl)
    try simp only [Act.put, List.setIfInBounds_toArray, List.set_cons_zero, List.set_cons_succ]
    refine move_a (i := 4) (v := ?_) rfl (by kernel_rfl) (by kernel_rfl) (by kernel_rfl) (fun _ _ _ h => h) (by rfl) ?_ ?_
    rotate_left
    · (intro w; go_simp; try with_reducible rfl)
    try simp only [Act.put, List.setIfInBounds_toArray, List.set_cons_zero, List.set_cons_succ]
    refine move_a (i := 5) (v := ?_) rfl (by kernel_rfl) (by kernel_rfl) (by kernel_rfl) (fun _ _ _ h => h) (by rfl) ?_ ?_
    rotate_left
    · (intro w; go_simp; try with_reducible rfl)
    try simp only [Act.put, List.setIfInBounds_toArray, List.set_cons_zero, List.set_cons_succ]
    refine move_a (i := 6) (v := ?_) rfl (by kernel_rfl) (by kernel_rfl) (by kernel_rfl) (fun _ _ _ h => h) (by rfl) ?_ ?_
    rotate_left
    · (intro w; go_simp; try with_reducible rfl)
    try simp only [Act.put, List.setIfInBounds_toArray, List.set_cons_zero, List.set_cons_succ]
    refine move_a (i := 7) (v := ?_) rfl (by kernel_rfl) (by kernel_rfl) (by kernel_rfl) (fun _ _ _ h => h) (by rfl) ?_ ?_
    rotate_left
    · (intro w; go_simp; try with_reducible rfl)
    try simp only [Act.put, List.setIfInBounds_toArray, List.set_cons_zero, List.set_cons_succ]
    refine move_b [10, 15] [10, 15] (i := 8) (v := ?_) rfl (by kernel_rfl) (by kernel_rfl) (by kernel_rfl) (fun _ _ _ h => h) (by kernel_rfl) (by kernel_rfl) (by kernel_rfl) (by rfl) ?_ hSw ?_
    rotate_left
    · (intro w hSw; (try dsimp only at hSw); go_simp; try with_reducible rfl)
    try simp only [Act.put, List.setIfInBounds_toArray, List.set_cons_zero, List.set_cons_succ]
    refine move_a (i := 9) (v := ?_) rfl (by kernel_rfl) (by kernel_rfl) (by kernel_rfl) (fun _ _ _ h => h) (by rfl) ?_ ?_
    rotate_left
    · (intro w; go_simp; try with_reducible rfl)
    try simp only [Act.put, List.setIfInBounds_toArray, List.set_cons_zero, List.set_cons_succ]
    refine move_a (i := 11) (v := ?_) rfl (by kernel_rfl) (by kernel_rfl) (by kernel_rfl) (fun _ _ _ h => h) (by rfl) ?_ ?_
    rotate_left
    · (intro w; go_simp; try with_reducible rfl)
    try simp only [Act.put, List.setIfInBounds_toArray, List.set_cons_zero, List.set_cons_succ]
    refine move_a (i := 12) (v := ?_) rfl (by kernel_rfl) (by kernel_rfl) (by kernel_rfl) (fun _ _ _ h => h) (by rfl) ?_ ?_
    rotate_left
    · (intro w; go_simp; try with_reducible rfl)
    try simp only [Act.put, List.setIfInBounds_toArray, List.set_cons_zero, List.set_cons_succ]
    refine move_c (i := 10) (by kernel_rfl) rfl (by rfl) (fun K hK => ?_)
    (refine stepAppH rfl (.tmp 22) (.tmp 23) rfl rfl rfl (RW.out.below D0.out) (HR.out.below D0.out) hbs (by omega) ?_; intro A1 n1 c1 w1 ho hg hob; have HF := Lib.hid (HSL.out A1 n1 c1 _ w1 (by rw [HOWN.out]; exact grownBy_undrew hg) ho (fun g e => by rw [HOWN.out]; exact hob g e)); have hpb : w1.heap[p]? = w.heap[p]? := hg.block p hpl (fun e => hnp.out (HOWN.out.trans e.symm)); have y1 : w1.cell? ⟨p, i * 2 + 1, none⟩ = some (.slice wA wn wc) := (World.cell?_of_block hpb).trans e1; have z1 : w1.frozen? ⟨p, i * 2 + 1, none⟩ = false := (World.frozen?_of_block hpb).trans f1; clear ho hg hob hpb)
    refine hK _ _ ?_
    clear hK K
    try simp only [Act.put, List.setIfInBounds_toArray, List.set_cons_zero, List.set_cons_succ]
    refine move_a (i := 13) (v := ?_) rfl (by kernel_rfl) (by kernel_rfl) (by kernel_rfl) (fun _ _ _ h => h) (by rfl) ?_ ?_
    rotate_left
    · (intro w; go_simp; try with_reducible rfl)
    try simp only [Act.put, List.setIfInBounds_toArray, List.set_cons_zero, List.set_cons_succ]
    refine move_a (i := 14) (v := ?_) rfl (by kernel_rfl) (by kernel_rfl) (by kernel_rfl) (fun _ _ _ h => h) (by rfl) ?_ ?_
    rotate_left
    · (intro w; go_simp; try with_reducible rfl)
    try simp only [Act.put, List.setIfInBounds_toArray, List.set_cons_zero, List.set_cons_succ]
    refine move_c (i := 15) (by kernel_rfl) rfl (by rfl) (fun K hK => ?_)
    go_simp
    refine hK _ _ ?_
    clear hK K
    try simp only [Act.put, List.setIfInBounds_toArray, List.set_cons_zero, List.set_cons_succ]
    refine move_d (by kernel_rfl) ?_
    rw [Nat.mul_comm i 2]
    obtain ⟨HF1, HF2⟩ := HF.out
    have HF1 := Lib.hid HF1
    have HF2 := Lib.hid HF2
    have HRaw := Lib.hid (raw_any HF1.out HD.out.n HD.out.a)
    have HAP : Hid (appD d i ys = gone (putB d (2 * i + 1) (d.b (2 * i + 1) ++ ys))) := Lib.hid rfl
    have hrp := rawD_put d (2 * i + 1) (d.b (2 * i + 1) ++ ys)
    rw [hrp] at HRaw
    have HRP := Lib.hid hrp
    have HG : Hid (gone (putB d (2 * i + 1) (d.b (2 * i + 1) ++ ys)) = if (rawD d).2 then offD (rawD (putB d (2 * i + 1) (d.b (2 * i + 1) ++ ys))).1 d.k else (rawD (putB d (2 * i + 1) (d.b (2 * i + 1) ++ ys))).1) := Lib.hid (by unfold gone; rw [hrp]; rfl)
    have hko := rawD_off (putB d (2 * i + 1) (d.b (2 * i + 1) ++ ys))
    have hsm : Small (rawD (putB d (2 * i + 1) (d.b (2 * i + 1) ++ ys))).1.b := by
      rw [hko.2.1]
      intro j hj
      show (upd d.b (2 * i + 1) (d.b (2 * i + 1) ++ ys) j).length ≤ _
      by_cases hji : j = 2 * i + 1
      · subst hji; rw [upd_same, List.length_append, hml]; exact HSZ.out _ hj
      · rw [upd_ne _ _ hji]; exact HD.out.b j hj
    have hkk : (rawD (putB d (2 * i + 1) (d.b (2 * i + 1) ++ ys))).1.k = d.k := hko.2.2
    have HKK := Lib.hid hkk
    have HSM := Lib.hid hsm
    have htn : (i : Int).toNat = i := by omega
    have HTN := Lib.hid htn
    clear hrp hko hsm hkk HF htn y1 z1 e1 f1
    generalize (rawD d).2 = gg at HRaw HG HA
    generalize (rawD (putB d (2 * i + 1) (d.b (2 * i + 1) ++ ys))).1 = d2 at HRaw HG HKK HSM
    go_wp2_with fail
    refine HRaw.out.mono ?_
    rintro e w3 ⟨rfl, h3, s3⟩
    have S3 := Lib.hid (HF2.out.trans s3)
    have H3 := Lib.hid h3
    cases gg
    · go_wp2
      go_ret
      refine ⟨by rw [HA.out]; rfl, _, ?_, S3.out⟩
      rw [HA.out, HTN.out, HAP.out, HG.out]
      exact H3.out
    · have e7 := h3.cells.2.2.2.2.2.2.2
      rw [HKK.out] at e7
      have HO := Lib.hid (off_any h3 HSM.out d.k HD.out.k)
      clear h3 s3
      go_wp2_with fail
      refine HO.out.mono ?_
      rintro e w4 hret
      have HRt := Lib.hid (RetD.from S3.out hret)
      clear hret
      obtain ⟨rfl, cs4, h4, s4⟩ := HRt.out
      go_wp2
      go_ret
      refine ⟨by rw [HA.out]; rfl, cs4, ?_, s4⟩
      rw [HA.out, HTN.out, HAP.out, HG.out]
      exact h4
  · have HA := Lib.hid (HA.out.trans (if_pos h0))
    have hb : (rdy d f == 0) = false := by simp [h0]
    have hb2 : (rdy d f != 0) = true := by simp [h0]
    clear h hd hr hsz h0
    generalize rdy d f = r at *
    go_enter Try.func11, Try.ntmps11
    go_wp2_with fail
    refine HRD.out.mono ?_
    rintro e w' ⟨rfl, rfl⟩
    go_wp2
    go_ret
    exact ⟨by rw [HA.out]; rfl, cs, by rw [HA.out]; exact H.out, DStep.refl _ _ _ _⟩
end Go.Proofs.Ytbmdglbhmianjaa.diskw
