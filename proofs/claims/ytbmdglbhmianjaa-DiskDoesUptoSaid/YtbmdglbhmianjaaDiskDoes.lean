/- What the laws' own 'does' computes; the laws' wakes. -/
import Derived.Test.YtbmdglbhmianjaaDiskPure2
import Derived.Lib.SmallJoins
set_option linter.unusedVariables false
set_option linter.unusedSimpArgs false
namespace Go.Proofs.Ytbmdglbhmianjaa.diskw
open Go.RowKit Go.Proofs.YtbmdglbhmianjaaW.PrintWords Go.Proofs.Ytbmdglbhmianjaa.base Go.Proofs.Ytbmdglbhmianjaa.mem Go.Proofs.Ytbmdglbhmianjaa.keep Go.Proofs.Ytbmdglbhmianjaa.samew Go.Proofs.Ytbmdglbhmianjaa.diskp Go.Proofs.Ytbmdglbhmianjaa.diskr Go.Proofs.Ytbmdglbhmianjaa.clone

/-- a call of a script: what it answers, and the disk behind it -/
def RetO (w : World) (base p : Nat) (cs : Nat → Sl) (d' : D) (out : List Int) (r : Int) (e : Ending) (w' : World) : Prop :=
  ∃ A n c, e = .returned (.tuple #[.slice A n c, .int .i64 r]) ∧ OwB w' w.heap.size A n c out ∧ DPost w base p cs d' w'
def opV (kd f n k : Int) (A : Option Addr) (m c : Nat) : Value := .agg #[.int .i64 kd, .int .i64 f, .int .i64 n, .int .i64 k, .slice A m c]
theorem out_none {w w1 w' : World} {base p : Nat} {cs : Nat → Sl} {d' : D} {r : Int} (s : DStep w base p cs w1 cs) (h : DPost w1 base p cs d' w') : RetO w base p cs d' [] r (.returned (.tuple #[.slice none 0 0, .int .i64 r])) w' := by
  obtain ⟨cs', h1, h2⟩ := h
  exact ⟨none, 0, 0, rfl, OwB.nil _ _, cs', h1, s.trans h2⟩
set_option maxHeartbeats 4000000 in
theorem does_any {w : World} {base p : Nat} {cs : Nat → Sl} {d : D} (h : DAt w base p cs d) (hd : Fit d) (kd f n k : Int) (A : Option Addr) (m c : Nat) (ys : List Int) (hr : RdB w A m ys) (hsz : ∀ i, i < 4 → (d.b i).length + m ≤ 17592186044416) (hn : -9223372036854775808 ≤ n ∧ n ≤ 9223372036854775807) (hk : -9223372036854775808 ≤ k ∧ k ≤ 9223372036854775807) :
    Calls Try.prog 22 #[.pointer (some ⟨p, 0, none⟩), opV kd f n k A m c] w (RetO w base p cs (doR d kd f n k ys).1 (doR d kd f n k ys).2.1 (doR d kd f n k ys).2.2) := by
  have BX := Lib.hid (below_alloc (Below.refl w.heap.size w) (.cells #[.int .i64 kd, .int .i64 f, .int .i64 n, .int .i64 k, .slice A m c] 40))
  have H1 := Lib.hid (h.below BX.out)
  have S1 := Lib.hid (DStep.below (cs := cs) (p := p) BX.out h.base_le)
  have R1 := Lib.hid (hr.below BX.out)
  have HD := Lib.hid hd
  have HSZ := Lib.hid hsz
  have hs1 := BX.out.size
  have HDO : Hid (doR d kd f n k ys = if kd = 0 then ((appR d f ys).1, [], (appR d f ys).2) else if kd = 1 then ((syncR d f).1, [], (syncR d f).2) else if kd = 2 then ((cutR d f n).1, [], (cutR d f n).2)
    else if kd = 3 then (armD d n k, [], 0) else if kd = 4 then (offD d k, [], 0) else if kd = 5 then (onD d, [], 0) else if kd = 6 then (d, (readR d f).1, (readR d f).2) else (d, [], 0)) := Lib.hid rfl
  unfold opV
  clear h hd hr hsz
  by_cases h0 : kd = 0
  · have HDO := Lib.hid (HDO.out.trans (if_pos h0))
    have HC := Lib.hid (append_any H1.out HD.out f A m c ys R1.out HSZ.out)
    have hk0 := h0
    clear h0
    subst hk0
    go_enter Try.func22, Try.ntmps22
    go_wp2_with fail
    refine HC.out.mono ?_
    rintro e w' ⟨rfl, hp⟩
    have HP := Lib.hid hp
    clear hp
    go_wp2
    try simp only [Exit.inBlock, Exit.then]
    refine bodyPost_ret (results_tmp2 rfl _ _ _) rfl ?_
    rw [HDO.out]
    exact out_none S1.out HP.out
  by_cases h1 : kd = 1
  · have HDO := Lib.hid (HDO.out.trans ((if_neg h0).trans (if_pos h1)))
    have HC := Lib.hid (sync_any H1.out HD.out f)
    have hk1 := h1
    clear h0 h1
    subst hk1
    go_enter Try.func22, Try.ntmps22
    go_wp2_with fail
    refine HC.out.mono ?_
    rintro e w' ⟨rfl, hp⟩
    have HP := Lib.hid hp
    clear hp
    go_wp2
    try simp only [Exit.inBlock, Exit.then]
    refine bodyPost_ret (results_tmp2 rfl _ _ _) rfl ?_
    rw [HDO.out]
    exact out_none S1.out HP.out
  by_cases h2 : kd = 2
  · have HDO := Lib.hid (HDO.out.trans ((if_neg h0).trans ((if_neg h1).trans (if_pos h2))))
    have HC := Lib.hid (trunc_any H1.out HD.out f n hn)
    have hk2 := h2
    clear h0 h1 h2
    subst hk2
    go_enter Try.func22, Try.ntmps22
    go_wp2_with fail
    refine HC.out.mono ?_
    rintro e w' ⟨rfl, hp⟩
    have HP := Lib.hid hp
    clear hp
    go_wp2
    try simp only [Exit.inBlock, Exit.then]
    refine bodyPost_ret (results_tmp2 rfl _ _ _) rfl ?_
    rw [HDO.out]
    exact out_none S1.out HP.out
  by_cases h3 : kd = 3
  · have HDO := Lib.hid (HDO.out.trans ((if_neg h0).trans ((if_neg h1).trans ((if_neg h2).trans (if_pos h3)))))
    have HC := Lib.hid (arm_any H1.out n k hn)
    have hk3 := h3
    clear h0 h1 h2 h3
    subst hk3
    go_enter Try.func22, Try.ntmps22
    go_wp2_with fail
    refine HC.out.mono ?_
    rintro e w' ⟨rfl, ha, hs⟩
    have HP := Lib.hid (show DPost _ base p cs _ w' from ⟨cs, ha, hs⟩)
    clear ha hs
    go_wp2
    try simp only [Exit.inBlock, Exit.then]
    refine bodyPost_ret (results_tmp2 rfl _ _ _) rfl ?_
    rw [HDO.out]
    exact out_none S1.out HP.out
  by_cases h4 : kd = 4
  · have HDO := Lib.hid (HDO.out.trans ((if_neg h0).trans ((if_neg h1).trans ((if_neg h2).trans ((if_neg h3).trans (if_pos h4))))))
    have HC := Lib.hid (off_any H1.out HD.out.b k hk)
    have hk4 := h4
    clear h0 h1 h2 h3 h4
    subst hk4
    go_enter Try.func22, Try.ntmps22
    go_wp2_with fail
    refine HC.out.mono ?_
    rintro e w' ⟨rfl, hp⟩
    have HP := Lib.hid hp
    clear hp
    go_wp2
    try simp only [Exit.inBlock, Exit.then]
    refine bodyPost_ret (results_tmp2 rfl _ _ _) rfl ?_
    rw [HDO.out]
    exact out_none S1.out HP.out
  by_cases h5 : kd = 5
  · have HDO := Lib.hid (HDO.out.trans ((if_neg h0).trans ((if_neg h1).trans ((if_neg h2).trans ((if_neg h3).trans ((if_neg h4).trans (if_pos h5)))))))
    have HC := Lib.hid (on_any H1.out)
    have hk5 := h5
    clear h0 h1 h2 h3 h4 h5
    subst hk5
    go_enter Try.func22, Try.ntmps22
    go_wp2_with fail
    refine HC.out.mono ?_
    rintro e w' ⟨rfl, ha, hs⟩
    have HP := Lib.hid (show DPost _ base p cs _ w' from ⟨cs, ha, hs⟩)
    clear ha hs
    go_wp2
    try simp only [Exit.inBlock, Exit.then]
    refine bodyPost_ret (results_tmp2 rfl _ _ _) rfl ?_
    rw [HDO.out]
    exact out_none S1.out HP.out
  by_cases h6 : kd = 6
  · have HDO := Lib.hid (HDO.out.trans ((if_neg h0).trans ((if_neg h1).trans ((if_neg h2).trans ((if_neg h3).trans ((if_neg h4).trans ((if_neg h5).trans (if_pos h6))))))))
    have HC := Lib.hid (read_any H1.out HD.out.b f)
    have hk6 := h6
    clear h0 h1 h2 h3 h4 h5 h6
    subst hk6
    go_enter Try.func22, Try.ntmps22
    go_wp2_with fail
    refine HC.out.mono ?_
    rintro e w' ⟨A4, n4, c4, rfl, ho, hb⟩
    have HO := Lib.hid (OwB.less ho hs1)
    have HP := Lib.hid (show DPost w base p cs d w' from ⟨cs, H1.out.below hb, S1.out.trans (DStep.below hb H1.out.base_le)⟩)
    clear ho hb
    go_wp2
    try simp only [Exit.inBlock, Exit.then]
    refine bodyPost_ret (results_tmp2 rfl _ _ _) rfl ?_
    rw [HDO.out]
    exact ⟨A4, n4, c4, rfl, HO.out, HP.out⟩
  have HDO := Lib.hid (HDO.out.trans ((if_neg h0).trans ((if_neg h1).trans ((if_neg h2).trans ((if_neg h3).trans ((if_neg h4).trans ((if_neg h5).trans (if_neg h6))))))))
  have b0 : (kd == 0) = false := beq_eq_false_iff_ne.2 h0
  have b1 : (kd == 1) = false := beq_eq_false_iff_ne.2 h1
  have b2 : (kd == 2) = false := beq_eq_false_iff_ne.2 h2
  have b3 : (kd == 3) = false := beq_eq_false_iff_ne.2 h3
  have b4 : (kd == 4) = false := beq_eq_false_iff_ne.2 h4
  have b5 : (kd == 5) = false := beq_eq_false_iff_ne.2 h5
  have b6 : (kd == 6) = false := beq_eq_false_iff_ne.2 h6
  clear h0 h1 h2 h3 h4 h5 h6
  go_enter Try.func22, Try.ntmps22
  go_wp2
  try simp only [Exit.inBlock, Exit.then]
  refine bodyPost_ret (results_tmp2 rfl _ _ _) rfl ?_
  rw [HDO.out]
  exact out_none S1.out ⟨cs, H1.out, DStep.refl _ _ _ _⟩
def k0 : D := diskp.load [] []
def k1 : D := (appR k0 0 [97, 98]).1
def k2 : D := (syncR k1 0).1
def k3 : D := (appR k2 0 [99, 100, 101]).1
def k4 : D := offD k3 2
def k5 : D := onD k4
theorem k_ok : Ok k0 0 0 ∧ Ok k1 2 1 ∧ Ok k2 2 2 ∧ Ok k3 5 3 ∧ Ok k4 5 3 ∧ Ok k5 5 3 := by
  have h0 : Ok k0 0 0 := Ok.load [] []
  have h1 : Ok k1 2 1 := h0.app 0 [97, 98]
  have h2 : Ok k2 2 2 := h1.sync 0
  have h3 : Ok k3 5 3 := h2.app 0 [99, 100, 101]
  have h4 : Ok k4 5 3 := h3.off 2
  exact ⟨h0, h1, h2, h3, h4, h4.on⟩
theorem Ok.fits {d : D} {S N : Nat} (h : Ok d S N) {m : Nat} (hS : S + m ≤ 17592186044416) : ∀ i, i < 4 → (d.b i).length + m ≤ 17592186044416 := fun i hi => by have := h.len i hi; omega
set_option maxHeartbeats 2000000 in
theorem wakes_any (w : World) : Calls Try.prog 9 #[] w fun e w' => e = .returned (.bool true) ∧ Below w.heap.size w w' := by
  have L2 : Hid (By [97, 98]) := Lib.hid (By_of _ (by decide))
  have L3 : Hid (By [99, 100, 101]) := Lib.hid (By_of _ (by decide))
  have KK := Lib.hid k_ok
  have a1 : (appR k0 0 [97, 98]).2 = 0 := rfl
  have a2 : (syncR k1 0).2 = 0 := rfl
  have a3 : (appR k2 0 [99, 100, 101]).2 = 0 := rfl
  have a5 : readR k5 0 = ([97, 98, 99, 100], 0) := rfl
  have A1 := Lib.hid a1
  have A2 := Lib.hid a2
  have A3 := Lib.hid a3
  have A5 := Lib.hid a5
  clear a1 a2 a3 a5
  have kc := fun (w : World) (C : Array Value) (n c : Nat) => Lib.run_convert_bytes_const (P := Try.prog) w 22 5 C n c Try.underlying22 Try.underlying5
  go_enter Try.func9, Try.ntmps9
  go_wp2_with fail
  refine (new_any w).mono ?_
  rintro e w1 ⟨p, cs, rfl, hd1, hb1⟩
  have hs1 := hb1.size
  have BB := below_alloc (Below.refl w1.heap.size w1) (.cells (nums .u8 [97, 98]).toArray 5 (2, 3))
  have HD1 := Lib.hid (hd1.below BB)
  have HB1 := Lib.hid (hb1.trans (BB.mono hs1))
  have HL1 := Lib.hid (litB w1 (2, 3) [97, 98] (Nat.le_of_ble_eq_true rfl) L2.out)
  have C1 := Lib.hid (append_any (d := k0) HD1.out (KK.out.1.fit (by omega) (by omega)) 0 (some ⟨w1.heap.size, 0, none⟩) 2 2 [97, 98] HL1.out (KK.out.1.fits (by omega)))
  rw [A1.out] at C1
  clear hd1 hb1 BB
  go_wp2_with fail
  refine C1.out.mono ?_
  rintro e w2 ⟨rfl, cs2, h2, s2⟩
  have HB2 := Lib.hid (HB1.out.trans s2.bel)
  have C2 := Lib.hid (sync_any (d := k1) h2 (KK.out.2.1.fit (by omega) (by omega)) 0)
  rw [A2.out] at C2
  clear h2 s2
  go_wp2_with fail
  refine C2.out.mono ?_
  rintro e w3 ⟨rfl, cs3, h3, s3⟩
  have HB3 := Lib.hid (HB2.out.trans s3.bel)
  have hs3 := HB3.out.size
  have BB := below_alloc (Below.refl w3.heap.size w3) (.cells (nums .u8 [99, 100, 101]).toArray 5 (3, 4))
  have HD3 := Lib.hid (h3.below BB)
  have HB3' := Lib.hid (HB3.out.trans (BB.mono hs3))
  have HL3 := Lib.hid (litB w3 (3, 4) [99, 100, 101] (Nat.le_of_ble_eq_true rfl) L3.out)
  have C3 := Lib.hid (append_any (d := k2) HD3.out (KK.out.2.2.1.fit (by omega) (by omega)) 0 (some ⟨w3.heap.size, 0, none⟩) 3 3 [99, 100, 101] HL3.out (KK.out.2.2.1.fits (by omega)))
  rw [A3.out] at C3
  clear h3 s3 BB
  go_wp2_with fail
  refine C3.out.mono ?_
  rintro e w4 ⟨rfl, cs4, h4, s4⟩
  have HB4 := Lib.hid (HB3'.out.trans s4.bel)
  have C4 := Lib.hid (off_any (d := k3) h4 (KK.out.2.2.2.1.fit (by omega) (by omega)).b 2 (by decide))
  clear h4 s4
  go_wp2_with fail
  refine C4.out.mono ?_
  rintro e w5 ⟨rfl, cs5, h5, s5⟩
  have HB5 := Lib.hid (HB4.out.trans s5.bel)
  have C5 := Lib.hid (on_any (d := k4) h5)
  clear h5 s5
  go_wp2_with fail
  refine C5.out.mono ?_
  rintro e w6 ⟨rfl, h6, s6⟩
  have HB6 := Lib.hid (HB5.out.trans s6.bel)
  have C6 := Lib.hid (read_any (d := k5) h6 (KK.out.2.2.2.2.2.fit (by omega) (by omega)).b 0)
  rw [A5.out] at C6
  clear h6 s6
  go_wp2_with fail
  refine C6.out.mono ?_
  rintro e w7 ⟨A7, n7, c7, rfl, ho, hb⟩
  have HB7 := Lib.hid (HB6.out.trans (hb.mono HB6.out.size))
  have hl := ho.len
  have k7 := str ho.rd 0 c7
  simp only [World.drewN_zero] at k7
  have e7 : strOfNums [97, 98, 99, 100] = ⟨#[97, 98, 99, 100]⟩ := rfl
  rw [e7] at k7
  clear ho hb hl
  go_wp2
  go_ret
  exact ⟨rfl, HB7.out⟩
end Go.Proofs.Ytbmdglbhmianjaa.diskw
