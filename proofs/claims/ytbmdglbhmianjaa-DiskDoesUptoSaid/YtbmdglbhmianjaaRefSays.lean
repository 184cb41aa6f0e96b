/- The law's says: a call of the document's disk. -/
import Derived.Test.YtbmdglbhmianjaaRefCut
import Derived.Test.YtbmdglbhmianjaaDiskDoes
set_option linter.unusedVariables false
set_option linter.unusedSimpArgs false
namespace Go.Proofs.Ytbmdglbhmianjaa.refw
open Go.RowKit Go.Proofs.YtbmdglbhmianjaaW.PrintWords Go.Proofs.Ytbmdglbhmianjaa.base Go.Proofs.Ytbmdglbhmianjaa.mem Go.Proofs.Ytbmdglbhmianjaa.keep Go.Proofs.Ytbmdglbhmianjaa.diskp Go.Proofs.Ytbmdglbhmianjaa.diskr Go.Proofs.Ytbmdglbhmianjaa.refr Go.Proofs.Ytbmdglbhmianjaa.ordt Go.Proofs.Ytbmdglbhmianjaa.clone Go.Proofs.Ytbmdglbhmianjaa.diskw

def RetP (w : World) (base p : Nat) (cs : Nat → Sl) (d' : D) (out : List Int) (r : Int) (e : Ending) (w' : World) : Prop :=
  ∃ A n c, e = .returned (.tuple #[.slice A n c, .int .i64 r]) ∧ OwB w' w.heap.size A n c out ∧ RPost w base p cs d' w'
theorem rout_none {w w1 w' : World} {base p : Nat} {cs : Nat → Sl} {d' : D} {r : Int} (s : DStep w base p cs w1 cs) (h : RPost w1 base p cs d' w') : RetP w base p cs d' [] r (.returned (.tuple #[.slice none 0 0, .int .i64 r])) w' := by
  obtain ⟨cs', h1, h2⟩ := h
  exact ⟨none, 0, 0, rfl, OwB.nil _ _, cs', h1, s.trans h2⟩
set_option maxHeartbeats 4000000 in
theorem says_any {w : World} {base p : Nat} {cs : Nat → Sl} {d : D} (h : RAt w base p cs d) (hd : Fit d) (kd f n k : Int) (A : Option Addr) (m c : Nat) (ys : List Int) (hr : RdB w A m ys) (hsz : ∀ i, i < 4 → (d.b i).length + m ≤ 17592186044416) (hn : -9223372036854775808 ≤ n ∧ n ≤ 9223372036854775807) (hk : -9223372036854775808 ≤ k ∧ k ≤ 9223372036854775807) :
    Calls Try.prog 25 #[.pointer (some ⟨p, 0, none⟩), opV kd f n k A m c] w (RetP w base p cs (doR d kd f n k ys).1 (doR d kd f n k ys).2.1 (doR d kd f n k ys).2.2) := by
  have BX := Lib.hid (below_alloc (Below.refl w.heap.size w) (.cells #[.int .i64 kd, .int .i64 f, .int .i64 n, .int .i64 k, .slice A m c] 40))
  have H1 := Lib.hid (h.below BX.out)
  have S1 := Lib.hid (DStep.below (cs := cs) (p := p) BX.out h.base_le)
  have R1 := Lib.hid (hr.below BX.out)
  have HD := Lib.hid hd
  have HSZ := Lib.hid hsz
  have hs1 := BX.out.size
  have HDO : Hid (doR d kd f n k ys = if kd = 0 then ((appR d f ys).1, [], (appR d f ys).2) else if kd = 1 then ((syncR d f).1, [], (syncR d f).2) else if kd = 2 then ((cutR d f n).1, [], (cutR d f n).2)
    else if kd = 3 then (armD d n k, [], 0) else if kd = 4 then (offD d k, [], 0) else if kd = 5 then (onD d, [], 0) else if kd = 6 then (d, (readR d f).1, (readR d f).2) else (d, [], 0)) := Lib.hid rfl
  unfold opV
  clear h hd hr hsz
  by_cases h0 : kd = 0
  · have HDO := Lib.hid (HDO.out.trans (if_pos h0))
    have HC := Lib.hid (rappend_any H1.out HD.out f A m c ys R1.out HSZ.out)
    have hk0 := h0
    clear h0
    subst hk0
    go_enter Try.func25, Try.ntmps25
    go_wp2_with fail
    refine HC.out.mono ?_
    rintro e w' ⟨rfl, hp⟩
    have HP := Lib.hid hp
    clear hp
    go_wp2
    try simp only [Exit.inBlock, Exit.then]
    refine bodyPost_ret (results_tmp2 rfl _ _ _) rfl ?_
    rw [HDO.out]
    exact rout_none S1.out HP.out
  by_cases h1 : kd = 1
  · have HDO := Lib.hid (HDO.out.trans ((if_neg h0).trans (if_pos h1)))
    have HC := Lib.hid (rsync_any H1.out HD.out f)
    have hk1 := h1
    clear h0 h1
    subst hk1
    go_enter Try.func25, Try.ntmps25
    go_wp2_with fail
    refine HC.out.mono ?_
    rintro e w' ⟨rfl, hp⟩
    have HP := Lib.hid hp
    clear hp
    go_wp2
    try simp only [Exit.inBlock, Exit.then]
    refine bodyPost_ret (results_tmp2 rfl _ _ _) rfl ?_
    rw [HDO.out]
    exact rout_none S1.out HP.out
  by_cases h2 : kd = 2
  · have HDO := Lib.hid (HDO.out.trans ((if_neg h0).trans ((if_neg h1).trans (if_pos h2))))
    have HC := Lib.hid (rtrunc_any H1.out HD.out f n hn)
    have hk2 := h2
    clear h0 h1 h2
    subst hk2
    go_enter Try.func25, Try.ntmps25
    go_wp2_with fail
    refine HC.out.mono ?_
    rintro e w' ⟨rfl, hp⟩
    have HP := Lib.hid hp
    clear hp
    go_wp2
    try simp only [Exit.inBlock, Exit.then]
    refine bodyPost_ret (results_tmp2 rfl _ _ _) rfl ?_
    rw [HDO.out]
    exact rout_none S1.out HP.out
  by_cases h3 : kd = 3
  · have HDO := Lib.hid (HDO.out.trans ((if_neg h0).trans ((if_neg h1).trans ((if_neg h2).trans (if_pos h3)))))
    have HC := Lib.hid (rarm_any H1.out n k)
    have hk3 := h3
    clear h0 h1 h2 h3
    subst hk3
    go_enter Try.func25, Try.ntmps25
    go_wp2_with fail
    refine HC.out.mono ?_
    rintro e w' ⟨rfl, ha, hs⟩
    have HP := Lib.hid (show RPost _ base p cs _ w' from ⟨cs, ha, hs⟩)
    clear ha hs
    go_wp2
    try simp only [Exit.inBlock, Exit.then]
    refine bodyPost_ret (results_tmp2 rfl _ _ _) rfl ?_
    rw [HDO.out]
    exact rout_none S1.out HP.out
  by_cases h4 : kd = 4
  · have HDO := Lib.hid (HDO.out.trans ((if_neg h0).trans ((if_neg h1).trans ((if_neg h2).trans ((if_neg h3).trans (if_pos h4))))))
    have HC := Lib.hid (roff_any H1.out HD.out.b k)
    have hk4 := h4
    clear h0 h1 h2 h3 h4
    subst hk4
    go_enter Try.func25, Try.ntmps25
    go_wp2_with fail
    refine HC.out.mono ?_
    rintro e w' ⟨rfl, hp⟩
    have HP := Lib.hid hp
    clear hp
    go_wp2
    try simp only [Exit.inBlock, Exit.then]
    refine bodyPost_ret (results_tmp2 rfl _ _ _) rfl ?_
    rw [HDO.out]
    exact rout_none S1.out HP.out
  by_cases h5 : kd = 5
  · have HDO := Lib.hid (HDO.out.trans ((if_neg h0).trans ((if_neg h1).trans ((if_neg h2).trans ((if_neg h3).trans ((if_neg h4).trans (if_pos h5)))))))
    have e4 := H1.out.cells.2.2.2.2.1
    have f4 := H1.out.free 4
    have H5 := Lib.hid (H1.out.scal 4 (.bool true) (d' := onD d) rfl rfl)
    have S5 := Lib.hid (rstep_store H1.out 4 (.bool true))
    have hk5 := h5
    clear h0 h1 h2 h3 h4 h5
    subst hk5
    go_enter Try.func25, Try.ntmps25
    go_wp2
    try simp only [Exit.inBlock, Exit.then]
    refine bodyPost_ret (results_tmp2 rfl _ _ _) rfl ?_
    rw [HDO.out]
    exact rout_none S1.out ⟨cs, H5.out, S5.out⟩
  by_cases h6 : kd = 6
  · have HDX := Lib.hid (HDO.out.trans ((if_neg h0).trans ((if_neg h1).trans ((if_neg h2).trans ((if_neg h3).trans ((if_neg h4).trans ((if_neg h5).trans (if_pos h6))))))))
    have e4 := H1.out.cells.2.2.2.2.1
    clear HDO
    have hk6 := h6
    clear h0 h1 h2 h3 h4 h5 h6
    subst hk6
    by_cases hf0 : f = 0
    · subst hf0
      cases ho : d.off
      · have hrd : readR d 0 = (fileB d 0, 0) := by
          unfold readR
          rw [show rdy d 0 = ans d.off from rdy0 0 (by omega), ho]
          rfl
        rw [hrd] at HDX
        rw [ho] at e4
        simp only [Bool.not_false] at e4
        have HC := Lib.hid (rall_any H1.out HD.out.b 0 (by omega))
        clear hrd ho
        go_enter Try.func25, Try.ntmps25
        go_wp2_with fail
        refine HC.out.mono ?_
        rintro e w' ⟨A4, n4, c4, rfl, ho, hb⟩
        have HO := Lib.hid (OwB.less ho hs1)
        have HP := Lib.hid (show RPost w base p cs d w' from ⟨cs, H1.out.below hb, S1.out.trans (DStep.below hb H1.out.base_le)⟩)
        clear ho hb
        go_wp2
        try simp only [Exit.inBlock, Exit.then]
        refine bodyPost_ret (results_tmp2 rfl _ _ _) rfl ?_
        rw [HDX.out]
        exact ⟨A4, n4, c4, rfl, HO.out, HP.out⟩
      · have hrd : readR d 0 = ([], 40) := by
          unfold readR
          rw [show rdy d 0 = ans d.off from rdy0 0 (by omega), ho]
          rfl
        rw [hrd] at HDX
        rw [ho] at e4
        simp only [Bool.not_true] at e4
        clear hrd ho
        go_enter Try.func25, Try.ntmps25
        go_wp2
        try simp only [Exit.inBlock, Exit.then]
        refine bodyPost_ret (results_tmp2 rfl _ _ _) rfl ?_
        rw [HDX.out]
        exact rout_none S1.out ⟨cs, H1.out, DStep.refl _ _ _ _⟩
    by_cases hf1 : f = 1
    · subst hf1
      cases ho : d.off
      · have hrd : readR d 1 = (fileB d 1, 0) := by
          unfold readR
          rw [show rdy d 1 = ans d.off from rdy0 1 (by omega), ho]
          rfl
        rw [hrd] at HDX
        rw [ho] at e4
        simp only [Bool.not_false] at e4
        have HC := Lib.hid (rall_any H1.out HD.out.b 1 (by omega))
        clear hrd ho
        go_enter Try.func25, Try.ntmps25
        go_wp2_with fail
        refine HC.out.mono ?_
        rintro e w' ⟨A4, n4, c4, rfl, ho, hb⟩
        have HO := Lib.hid (OwB.less ho hs1)
        have HP := Lib.hid (show RPost w base p cs d w' from ⟨cs, H1.out.below hb, S1.out.trans (DStep.below hb H1.out.base_le)⟩)
        clear ho hb
        go_wp2
        try simp only [Exit.inBlock, Exit.then]
        refine bodyPost_ret (results_tmp2 rfl _ _ _) rfl ?_
        rw [HDX.out]
        exact ⟨A4, n4, c4, rfl, HO.out, HP.out⟩
      · have hrd : readR d 1 = ([], 40) := by
          unfold readR
          rw [show rdy d 1 = ans d.off from rdy0 1 (by omega), ho]
          rfl
        rw [hrd] at HDX
        rw [ho] at e4
        simp only [Bool.not_true] at e4
        clear hrd ho
        go_enter Try.func25, Try.ntmps25
        go_wp2
        try simp only [Exit.inBlock, Exit.then]
        refine bodyPost_ret (results_tmp2 rfl _ _ _) rfl ?_
        rw [HDX.out]
        exact rout_none S1.out ⟨cs, H1.out, DStep.refl _ _ _ _⟩
    have hrd : readR d f = ([], 1) := by
      unfold readR
      rw [rdy_bad hf0 hf1]
      rfl
    rw [hrd] at HDX
    have hb0 : (f != 0) = true := by simp [hf0]
    have hb1 : (f != 1) = true := by simp [hf1]
    clear hrd hf0 hf1
    go_enter Try.func25, Try.ntmps25
    go_wp2
    try simp only [Exit.inBlock, Exit.then]
    refine bodyPost_ret (results_tmp2 rfl _ _ _) rfl ?_
    rw [HDX.out]
    exact rout_none S1.out ⟨cs, H1.out, DStep.refl _ _ _ _⟩
  have HDO := Lib.hid (HDO.out.trans ((if_neg h0).trans ((if_neg h1).trans ((if_neg h2).trans ((if_neg h3).trans ((if_neg h4).trans ((if_neg h5).trans (if_neg h6))))))))
  have b0 : (kd == 0) = false := beq_eq_false_iff_ne.2 h0
  have b1 : (kd == 1) = false := beq_eq_false_iff_ne.2 h1
  have b2 : (kd == 2) = false := beq_eq_false_iff_ne.2 h2
  have b3 : (kd == 3) = false := beq_eq_false_iff_ne.2 h3
  have b4 : (kd == 4) = false := beq_eq_false_iff_ne.2 h4
  have b5 : (kd == 5) = false := beq_eq_false_iff_ne.2 h5
  have b6 : (kd == 6) = false := beq_eq_false_iff_ne.2 h6
  clear h0 h1 h2 h3 h4 h5 h6
  go_enter Try.func25, Try.ntmps25
  go_wp2
  try simp only [Exit.inBlock, Exit.then]
  refine bodyPost_ret (results_tmp2 rfl _ _ _) rfl ?_
  rw [HDO.out]
  exact rout_none S1.out ⟨cs, H1.out, DStep.refl _ _ _ _⟩
end Go.Proofs.Ytbmdglbhmianjaa.refw
