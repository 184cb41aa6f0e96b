/- What gram.Decode and the reference's Decode compute. -/
import Derived.Test.YtobkcedmjeidfaaDoorGTakeWalk
import Derived.Test.YtobkcedmjeidfaaDoorGTakeWalk2
import Derived.Test.YtobkcedmjeidfaaDoorGDecPure
import Derived.Deep.RegionHeld3
set_option linter.unusedVariables false
set_option linter.unusedSimpArgs false
namespace Go.Proofs.YtobkcedmjeidfaaDoor.gtake
open Go.RowKit Go.Proofs.YtobkcedmjeidfaaDoorW.PrintWords Go.Proofs.YtobkcedmjeidfaaDoor.base Go.Proofs.YtobkcedmjeidfaaDoor.mem Go.Proofs.YtobkcedmjeidfaaDoor.packp Go.Proofs.YtobkcedmjeidfaaDoor.packw Go.Proofs.YtobkcedmjeidfaaDoor.samew Go.Proofs.YtobkcedmjeidfaaDoor.wirep Go.Proofs.YtobkcedmjeidfaaDoor.wirew Go.Proofs.YtobkcedmjeidfaaDoor.takew Go.Proofs.YtobkcedmjeidfaaDoor.gramp Go.Proofs.YtobkcedmjeidfaaDoor.gramw Go.Proofs.YtobkcedmjeidfaaDoor.crcp Go.Proofs.YtobkcedmjeidfaaDoor.crcw

theorem results_row1 {P : Program} {fn : Func} {p u : Tmp} {ty : TypeId} (h : fn.results = #[.cell p ty, .tmp u]) (tmps : Array Value) (w : World) (g : Nat) (t : TypeId) {cs : Array Value} (fr : Nat × Nat) (d : TypeDesc)
    (hp : tmps.getD p undef = .pointer (some ⟨g, 0, none⟩)) (hg : w.heap[g]? = some (.cells cs t fr))
    (hu : P.underlying ty = some d) (hd : (match d with | .struct _ | .array _ _ => true | _ => false) = true) (hi : (P.info? ty).map (·.size) = some cs.size) :
    (results fn tmps).run P w = .ok (.tuple #[.agg cs, tmps.getD u undef]) w := by
  have hp' : tmps[p]?.getD undef = .pointer (some ⟨g, 0, none⟩) := by simpa using hp
  simp [results, h, hp', asAddr, run_loadVar_row w g t ty cs fr d hg hu hd hi]
theorem gword_any (A : Option Addr) (n c : Nat) (xs : List Int) (w : World) (hr : RdB w A n xs) (hn : 4 ≤ n) :
    Calls Tryd.prog 37 #[.slice A n c] w fun e w' => e = .returned (.int .u32 (w4 xs)) ∧ ∃ q, w' = w.drewN q := by
  obtain ⟨ad, e0, h0⟩ := hr.at_ 0 (by omega)
  subst e0
  obtain ⟨ad1, e1, h1⟩ := hr.at_ 1 (by omega)
  obtain ⟨ad2, e2, h2⟩ := hr.at_ 2 (by omega)
  obtain ⟨ad3, e3, h3⟩ := hr.at_ 3 (by omega)
  injection e1 with e1
  injection e2 with e2
  injection e3 with e3
  subst e1 e2 e3
  have b0 := hr.2 0
  have b1 := hr.2 1
  have b2 := hr.2 2
  have b3 := hr.2 3
  have HE : Hid (w4 xs = xs.getD 0 0 + xs.getD 1 0 * 256 + xs.getD 2 0 * 65536 + xs.getD 3 0 * 16777216) := Lib.hid rfl
  generalize xs.getD 0 0 = x0 at h0 b0 HE
  generalize xs.getD 1 0 = x1 at h1 b1 HE
  generalize xs.getD 2 0 = x2 at h2 b2 HE
  generalize xs.getD 3 0 = x3 at h3 b3 HE
  have hs : ad.spot = none := by
    have := World.cell?_spot h0
    simpa [Addr.add] using this
  obtain ⟨b, off, sp⟩ := ad
  subst hs
  have ap : ∀ k, (⟨b, off, none⟩ : Addr).add k = ⟨b, off + k, none⟩ := fun k => by unfold Addr.add; split <;> simp_all
  rw [ap] at h0 h1 h2 h3
  have l0 : 0 < n := by omega
  have l1 : 1 < n := by omega
  have l2 : 2 < n := by omega
  have l3 : 3 < n := by omega
  have h0 : w.cell? ⟨b, off, none⟩ = some (.int .u8 x0) := h0
  clear hr ap
  go_enter Tryd.func37, Tryd.ntmps37
  go_wp2
  go_region
  go_wp2
  go_ret
  exact ⟨by rw [HE.out, ← w4_bits b0 b1 b2 b3]; rfl, _, rfl⟩
set_option maxHeartbeats 4000000 in
set_option maxRecDepth 100000 in
theorem gdecode_any (A : Option Addr) (n c : Nat) (xs : List Int) (w : World) (hr : RdB w A n xs) (hc : n ≤ c) (ht : Table w) :
    Calls Tryd.prog 19 #[.slice A n c] w fun e w' => e = .returned (.tuple #[(decG xs).1.agg, .int .i64 (decG xs).2]) ∧ Below w.heap.size w w' := by
  have HR := Lib.hid hr
  have hn := hr.max
  have HL := Lib.hid hr.len
  have HT := Lib.hid ht
  have HI : Hid (RowH (w.alloc (.cells #[.int .i64 0, .int .i64 0, .int .i64 0, .int .i64 0, .int .i64 0, .int .i64 0, .int .i64 0, .int .i64 0, .int .i64 0] 26)) w.heap.size [0, 0, 0, 0, 0, 0, 0, 0, 0]) := Lib.hid (RowH.new w w.heap.size rfl [0, 0, 0, 0, 0, 0, 0, 0, 0])
  have HBI := Lib.hid (below_alloc (Below.refl w.heap.size w) (.cells #[.int .i64 0, .int .i64 0, .int .i64 0, .int .i64 0, .int .i64 0, .int .i64 0, .int .i64 0, .int .i64 0, .int .i64 0] 26))
  have hs0 : w.heap.size < (w.alloc (.cells #[.int .i64 0, .int .i64 0, .int .i64 0, .int .i64 0, .int .i64 0, .int .i64 0, .int .i64 0, .int .i64 0, .int .i64 0] 26)).heap.size := by simp
  clear hr ht
  by_cases h4 : n < 4
  · have HR0 := Lib.hid (dec_short (xs := xs) (by rw [HL.out]; exact h4))
    go_enter Tryd.func19, Tryd.ntmps19
    go_wp2
    all_goals (try rw [Exit.noGoto_ret])
    try simp only [Exit.inBlock, Exit.then]
    refine bodyPost_ret_by (results_row1 rfl _ _ w.heap.size 26 (0, 0) _ rfl HI.out Tryd.underlying26 rfl (by kernel_rfl)) rfl ?_
    exact ⟨by rw [HR0.out]; rfl, HBI.out⟩
  obtain ⟨m, hm⟩ : ∃ m, n = m + 4 := ⟨n - 4, by omega⟩
  subst hm
  have hmn : m ≤ m + 4 := by omega
  have hmc : m ≤ c := by omega
  have hmci : (m : Int) ≤ (c : Int) := by omega
  obtain ⟨A8, n8, c8, hcut8, a1, a2, a3, hrd8⟩ := cutL A (m + 4) c m hmn hc
  have hcut8b : ∀ W : World, (Instr.slice 22 (.slice A (m + 4) c) (some (.int .i64 (m : Int))) none none).run Tryd.prog W = .ok (.slice A8 n8 c8) W := hcut8
  have HL2 := HL
  have HRm := Lib.hid (HR.out.take m hmn)
  have hm0 : decide ((m : Int) < 0) = false := decide_eq_false (by omega)
  go_enter Tryd.func19, Tryd.ntmps19
  go_wp2_with fail
  generalize w.alloc (.cells #[.int .i64 0, .int .i64 0, .int .i64 0, .int .i64 0, .int .i64 0, .int .i64 0, .int .i64 0, .int .i64 0, .int .i64 0] 26) = W0 at HI HBI hs0 ⊢
  have HW : Hid (∀ q, RdB (W0.drewN q) A (m + 4) xs ∧ Table (W0.drewN q)) := Lib.hid fun q => ⟨(HR.out.below HBI.out).drawn q, (HT.out.below HBI.out).below (pw_below_drewN (Below.refl _ _) q)⟩
  have HW0 : Hid (RdB W0.drew A (m + 4) xs) := Lib.hid ((HR.out.below HBI.out).below (Below.refl _ _).drew)
  have HZW : Hid (∀ q, RowH (W0.drewN q) w.heap.size [0, 0, 0, 0, 0, 0, 0, 0, 0]) := Lib.hid fun q => HI.out.below (pw_below_drewN (Below.refl _ _) q)
  have HBW : Hid (∀ q, Below w.heap.size w (W0.drewN q)) := Lib.hid fun q => pw_below_drewN HBI.out q
  go_region_held3 (fun _ => True) (trivial) (first | (go_at_call 37; refine (gword_any _ _ _ _ _ (hrd8 _ _ HW0.out) (by omega)).mono ?_; rintro e w5 ⟨rfl, q5, rfl⟩) | (go_at_call 21; refine (sum_any _ _ _ _ _ ((HW.out _).1.take m hmn) (HW.out _).2).mono ?_; rintro e w6 ⟨rfl, rfl⟩))
  have HR3 := Lib.hid ((HW.out (1 + q5)).1.take m hmn)
  have HZ3 := Lib.hid (HZW.out (1 + q5))
  have HB3 := Lib.hid (HBW.out (1 + q5))
  generalize W0.drewN (1 + q5) = W3 at HR3 HZ3 HB3 ⊢
  clear HW HW0 HZW HBW HI HBI hs0
  by_cases hz : w4 (xs.drop m) = add 0 (xs.take m)
  · have HSUM := Lib.hid hz
    have hne : (w4 (xs.drop m) != add 0 (xs.take m)) = false := by simpa using hz
    clear hz
    generalize hzz : w4 (xs.drop m) = z at hne ⊢
    generalize haa : add 0 (xs.take m) = y at hne ⊢
    clear hzz haa
    obtain ⟨⟨⟨f, t, a, s, ⟨k, o, d, u, v⟩⟩, gn, ge⟩, hR⟩ : ∃ R, takeG (xs.take m) = R := ⟨_, rfl⟩
    have HT := Lib.hid (gtake_any A m c (xs.take m) W3 HR3.out hmc)
    rw [hR] at HT
    have hgn : gn ≤ m := by
      have ht := takeG_told HR3.out.2
      rw [hR] at ht
      rcases ht with ⟨_, _, h, _⟩ | ⟨_, h, _⟩
      · have h2 := HR3.out.len
        dsimp only at h
        omega
      · dsimp only at h
        omega
    have HGR := Lib.hid hR
    clear hR
    have HT : Hid (Calls Tryd.prog 17 #[.slice A m c] W3 fun e w' => e = .returned (.tuple #[.agg #[.int .i64 f, .int .i64 t, .int .i64 a, .int .i64 s, .int .i64 k, .int .i64 o, .int .i64 d, .int .i64 u, .int .i64 v], .int .i64 gn, .int .i64 ge]) ∧ Below W3.heap.size W3 w') := HT
    by_cases hq : ge = 0 ∧ gn = m
    · obtain ⟨rfl, rfl⟩ := hq
      have HR0 := Lib.hid (dec_good HL2.out HSUM.out HGR.out)
      have q1 : decide ((gn : Int) < (gn : Int)) = false := decide_eq_false (by omega)
      go_wp2_with fail
      refine HT.out.mono ?_
      rintro e w5 ⟨rfl, hb⟩
      have HZ5 := Lib.hid (HZ3.out.below hb)
      have HB5 := Lib.hid (HB3.out.trans (hb.mono HB3.out.size))
      have hlt5 := HZ5.out.lt
      clear hb
      have f0 := HZ5.out.cell 0 (by simp)
      have q0 := HZ5.out.free 0
      have f1 := HZ5.out.cell 1 (by simp)
      have q1 := HZ5.out.free 1
      have f2 := HZ5.out.cell 2 (by simp)
      have q2 := HZ5.out.free 2
      have f3 := HZ5.out.cell 3 (by simp)
      have q3 := HZ5.out.free 3
      have f4 := HZ5.out.cell 4 (by simp)
      have q4 := HZ5.out.free 4
      have f5 := HZ5.out.cell 5 (by simp)
      have q5 := HZ5.out.free 5
      have f6 := HZ5.out.cell 6 (by simp)
      have q6 := HZ5.out.free 6
      have f7 := HZ5.out.cell 7 (by simp)
      have q7 := HZ5.out.free 7
      have f8 := HZ5.out.cell 8 (by simp)
      have q8 := HZ5.out.free 8
      simp only [List.getD_cons_zero, List.getD_cons_succ, List.getD_nil] at f0 f1 f2 f3 f4 f5 f6 f7 f8
      go_wp2
      try simp only [Exit.inBlock, Exit.then]
      refine bodyPost_ret_by (results_row1 rfl _ _ w.heap.size 26 (0, 0) _ rfl ((HZ5.out.all f t a s k o d u v rfl).alloc _) Tryd.underlying26 rfl (by kernel_rfl)) rfl ?_
      exact ⟨by rw [HR0.out]; rfl, (below9 HB5.out _ _ _ _ _ _ _ _ _).alloc (below9 HB5.out _ _ _ _ _ _ _ _ _).size _⟩
    · have HR0 := Lib.hid (dec_form HL2.out HSUM.out HGR.out hq)
      clear HGR
      by_cases hge : ge = 0
      · have hgm : gn < m := by
          rcases Nat.lt_or_ge gn m with h | h
          · exact h
          · exact absurd ⟨hge, by omega⟩ hq
        subst hge
        have hgne : ((gn : Int) != (m : Int)) = true := by simp; omega
        have hgne2 : ((gn : Int) == (m : Int)) = false := by simp; omega
        have hgne3 : (gn == m) = false := by simp; omega
        clear hq
        go_wp2_with fail
        refine HT.out.mono ?_
        rintro e w5 ⟨rfl, hb⟩
        have HZ5 := Lib.hid (HZ3.out.below hb)
        have HB5 := Lib.hid (HB3.out.trans (hb.mono HB3.out.size))
        have hlt5 := HZ5.out.lt
        clear hb
        have f0 := HZ5.out.cell 0 (by simp)
        have q0 := HZ5.out.free 0
        have f1 := HZ5.out.cell 1 (by simp)
        have q1 := HZ5.out.free 1
        have f2 := HZ5.out.cell 2 (by simp)
        have q2 := HZ5.out.free 2
        have f3 := HZ5.out.cell 3 (by simp)
        have q3 := HZ5.out.free 3
        have f4 := HZ5.out.cell 4 (by simp)
        have q4 := HZ5.out.free 4
        have f5 := HZ5.out.cell 5 (by simp)
        have q5 := HZ5.out.free 5
        have f6 := HZ5.out.cell 6 (by simp)
        have q6 := HZ5.out.free 6
        have f7 := HZ5.out.cell 7 (by simp)
        have q7 := HZ5.out.free 7
        have f8 := HZ5.out.cell 8 (by simp)
        have q8 := HZ5.out.free 8
        simp only [List.getD_cons_zero, List.getD_cons_succ, List.getD_nil] at f0 f1 f2 f3 f4 f5 f6 f7 f8
        go_wp2
        try simp only [Exit.inBlock, Exit.then]
        refine bodyPost_ret_by (results_row1 rfl _ _ w.heap.size 26 (0, 0) _ rfl ((HZ5.out.all 0 0 0 0 0 0 0 0 0 rfl).alloc _) Tryd.underlying26 rfl (by kernel_rfl)) rfl ?_
        exact ⟨by rw [HR0.out]; rfl, (below9 HB5.out _ _ _ _ _ _ _ _ _).alloc (below9 HB5.out _ _ _ _ _ _ _ _ _).size _⟩
      · have heb : (ge == 0) = false := beq_eq_false_iff_ne.2 hge
        have heb2 : (ge != 0) = true := by simp [hge]
        clear hq
        go_wp2_with fail
        refine HT.out.mono ?_
        rintro e w5 ⟨rfl, hb⟩
        have HZ5 := Lib.hid (HZ3.out.below hb)
        have HB5 := Lib.hid (HB3.out.trans (hb.mono HB3.out.size))
        have hlt5 := HZ5.out.lt
        clear hb
        have f0 := HZ5.out.cell 0 (by simp)
        have q0 := HZ5.out.free 0
        have f1 := HZ5.out.cell 1 (by simp)
        have q1 := HZ5.out.free 1
        have f2 := HZ5.out.cell 2 (by simp)
        have q2 := HZ5.out.free 2
        have f3 := HZ5.out.cell 3 (by simp)
        have q3 := HZ5.out.free 3
        have f4 := HZ5.out.cell 4 (by simp)
        have q4 := HZ5.out.free 4
        have f5 := HZ5.out.cell 5 (by simp)
        have q5 := HZ5.out.free 5
        have f6 := HZ5.out.cell 6 (by simp)
        have q6 := HZ5.out.free 6
        have f7 := HZ5.out.cell 7 (by simp)
        have q7 := HZ5.out.free 7
        have f8 := HZ5.out.cell 8 (by simp)
        have q8 := HZ5.out.free 8
        simp only [List.getD_cons_zero, List.getD_cons_succ, List.getD_nil] at f0 f1 f2 f3 f4 f5 f6 f7 f8
        go_wp2
        try simp only [Exit.inBlock, Exit.then]
        refine bodyPost_ret_by (results_row1 rfl _ _ w.heap.size 26 (0, 0) _ rfl ((HZ5.out.all 0 0 0 0 0 0 0 0 0 rfl).alloc _) Tryd.underlying26 rfl (by kernel_rfl)) rfl ?_
        exact ⟨by rw [HR0.out]; rfl, (below9 HB5.out _ _ _ _ _ _ _ _ _).alloc (below9 HB5.out _ _ _ _ _ _ _ _ _).size _⟩
  · have HR0 := Lib.hid (dec_sum HL2.out hz)
    have hne : (w4 (xs.drop m) != add 0 (xs.take m)) = true := by simpa using hz
    clear hz
    generalize w4 (xs.drop m) = z at hne ⊢
    generalize add 0 (xs.take m) = y at hne ⊢
    have hlt3 := HZ3.out.lt
    have f0 := HZ3.out.cell 0 (by simp)
    have q0 := HZ3.out.free 0
    have f1 := HZ3.out.cell 1 (by simp)
    have q1 := HZ3.out.free 1
    have f2 := HZ3.out.cell 2 (by simp)
    have q2 := HZ3.out.free 2
    have f3 := HZ3.out.cell 3 (by simp)
    have q3 := HZ3.out.free 3
    have f4 := HZ3.out.cell 4 (by simp)
    have q4 := HZ3.out.free 4
    have f5 := HZ3.out.cell 5 (by simp)
    have q5 := HZ3.out.free 5
    have f6 := HZ3.out.cell 6 (by simp)
    have q6 := HZ3.out.free 6
    have f7 := HZ3.out.cell 7 (by simp)
    have q7 := HZ3.out.free 7
    have f8 := HZ3.out.cell 8 (by simp)
    have q8 := HZ3.out.free 8
    simp only [List.getD_cons_zero, List.getD_cons_succ, List.getD_nil] at f0 f1 f2 f3 f4 f5 f6 f7 f8
    go_wp2
    try simp only [Exit.inBlock, Exit.then]
    refine bodyPost_ret_by (results_row1 rfl _ _ w.heap.size 26 (0, 0) _ rfl ((HZ3.out.all 0 0 0 0 0 0 0 0 0 rfl)) Tryd.underlying26 rfl (by kernel_rfl)) rfl ?_
    exact ⟨by rw [HR0.out]; rfl, below9 HB3.out _ _ _ _ _ _ _ _ _⟩
set_option maxHeartbeats 4000000 in
set_option maxRecDepth 100000 in
theorem refgdecode_any (A : Option Addr) (n c : Nat) (xs : List Int) (w : World) (hr : RdB w A n xs) (hc : n ≤ c) :
    Calls Tryd.prog 20 #[.slice A n c] w fun e w' => e = .returned (.tuple #[(decG xs).1.agg, .int .i64 (decG xs).2]) ∧ Below w.heap.size w w' := by
  have HR := Lib.hid hr
  have hn := hr.max
  have HL := Lib.hid hr.len
  have HI : Hid (RowH (w.alloc (.cells #[.int .i64 0, .int .i64 0, .int .i64 0, .int .i64 0, .int .i64 0, .int .i64 0, .int .i64 0, .int .i64 0, .int .i64 0] 26)) w.heap.size [0, 0, 0, 0, 0, 0, 0, 0, 0]) := Lib.hid (RowH.new w w.heap.size rfl [0, 0, 0, 0, 0, 0, 0, 0, 0])
  have HBI := Lib.hid (below_alloc (Below.refl w.heap.size w) (.cells #[.int .i64 0, .int .i64 0, .int .i64 0, .int .i64 0, .int .i64 0, .int .i64 0, .int .i64 0, .int .i64 0, .int .i64 0] 26))
  have hs0 : w.heap.size < (w.alloc (.cells #[.int .i64 0, .int .i64 0, .int .i64 0, .int .i64 0, .int .i64 0, .int .i64 0, .int .i64 0, .int .i64 0, .int .i64 0] 26)).heap.size := by simp
  clear hr
  by_cases h4 : n < 4
  · have HR0 := Lib.hid (dec_short (xs := xs) (by rw [HL.out]; exact h4))
    go_enter Tryd.func20, Tryd.ntmps20
    go_wp2
    all_goals (try rw [Exit.noGoto_ret])
    try simp only [Exit.inBlock, Exit.then]
    refine bodyPost_ret_by (results_row1 rfl _ _ w.heap.size 26 (0, 0) _ rfl HI.out Tryd.underlying26 rfl (by kernel_rfl)) rfl ?_
    exact ⟨by rw [HR0.out]; rfl, HBI.out⟩
  obtain ⟨m, hm⟩ : ∃ m, n = m + 4 := ⟨n - 4, by omega⟩
  subst hm
  have hmn : m ≤ m + 4 := by omega
  have hmc : m ≤ c := by omega
  have hmci : (m : Int) ≤ (c : Int) := by omega
  obtain ⟨A8, n8, c8, hcut8, a1, a2, a3, hrd8⟩ := cutL A (m + 4) c m hmn hc
  have hcut8b : ∀ W : World, (Instr.slice 22 (.slice A (m + 4) c) (some (.int .i64 (m : Int))) none none).run Tryd.prog W = .ok (.slice A8 n8 c8) W := hcut8
  have HL2 := HL
  have HRm := Lib.hid (HR.out.take m hmn)
  have hm0 : decide ((m : Int) < 0) = false := decide_eq_false (by omega)
  have hw : w4 (xs.drop m) = xs.getD m 0 + xs.getD (m + 1) 0 * 256 + xs.getD (m + 2) 0 * 65536 + xs.getD (m + 3) 0 * 16777216 := by
    unfold w4
    simp [List.getD_eq_getElem?_getD]
  obtain ⟨ad, rfl, c0⟩ := (HR.out.below HBI.out).at_ m (by omega)
  obtain ⟨_, hgg, c1⟩ := (HR.out.below HBI.out).at_ (m + 1) (by omega)
  cases hgg
  obtain ⟨_, hgg, c2⟩ := (HR.out.below HBI.out).at_ (m + 2) (by omega)
  cases hgg
  obtain ⟨_, hgg, c3⟩ := (HR.out.below HBI.out).at_ (m + 3) (by omega)
  cases hgg
  have hsp : ad.spot = none := by
    obtain ⟨_, hgg, k0⟩ := HR.out.at_ 0 (by omega)
    cases hgg
    have := World.cell?_spot k0
    simpa [Addr.add] using this
  obtain ⟨gb, off, sp⟩ := ad
  subst hsp
  have ap : ∀ k, (⟨gb, off, none⟩ : Addr).add k = ⟨gb, off + k, none⟩ := fun k => by unfold Addr.add; split <;> simp_all
  have c0a := c0
  rw [ap] at c0 c1 c2 c3
  clear ap
  have b0 := HR.out.2 m
  have b1 := HR.out.2 (m + 1)
  have b2 := HR.out.2 (m + 2)
  have b3 := HR.out.2 (m + 3)
  generalize xs.getD m 0 = x0 at hw c0 c0a b0
  generalize xs.getD (m + 1) 0 = x1 at hw c1 b1
  generalize xs.getD (m + 2) 0 = x2 at hw c2 b2
  generalize xs.getD (m + 3) 0 = x3 at hw c3 b3
  have hSd : ∃ S, add 0 (xs.take m) = S := ⟨_, rfl⟩
  obtain ⟨S, hS⟩ := hSd
  have hU := U32_add 0 (xs.take m)
  rw [hS] at hU
  have hU0 := hU.1
  have hU1 := hU.2
  have HW := Lib.hid hw
  have HS := Lib.hid hS
  clear hw hS hU
  have HOK : Hid (x0 = S % 256 → x1 = S / 256 % 256 → x2 = S / 65536 % 256 → x3 = S / 16777216 → w4 (xs.drop m) = add 0 (xs.take m)) := Lib.hid (by
    intro h0 h1 h2 h3
    rw [HW.out, HS.out]
    omega)
  have HNO : Hid (¬ (x0 = S % 256 ∧ x1 = S / 256 % 256 ∧ x2 = S / 65536 % 256 ∧ x3 = S / 16777216) → w4 (xs.drop m) ≠ add 0 (xs.take m)) := Lib.hid (by
    intro h h2
    rw [HW.out, HS.out] at h2
    exact h (by omega))
  clear HW
  go_enter Tryd.func20, Tryd.ntmps20
  go_wp2_with fail
  generalize w.alloc (.cells #[.int .i64 0, .int .i64 0, .int .i64 0, .int .i64 0, .int .i64 0, .int .i64 0, .int .i64 0, .int .i64 0, .int .i64 0] 26) = W0 at HI HBI hs0 c0 c0a c1 c2 c3 ⊢
  have HR3 := Lib.hid ((HR.out.below HBI.out).take m hmn)
  have HZ3 := Lib.hid HI.out
  have HB3 := Lib.hid HBI.out
  refine (refsum_any _ _ _ (xs.take m) _ HR3.out).mono ?_
  rintro e w4_ ⟨rfl, rfl⟩
  rw [add_ref, HS.out]
  clear HI HBI
  by_cases e0 : x0 = S % 256
  · have n0 : (x0 != S % 256) = false := by simp [e0]
    have E0 := Lib.hid e0
    clear e0
    by_cases e1 : x1 = S / 256 % 256
    · have n1 : (x1 != S / 256 % 256) = false := by simp [e1]
      have E1 := Lib.hid e1
      clear e1
      by_cases e2 : x2 = S / 65536 % 256
      · have n2 : (x2 != S / 65536 % 256) = false := by simp [e2]
        have E2 := Lib.hid e2
        clear e2
        by_cases e3 : x3 = S / 16777216
        · have n3 : (x3 != S / 16777216) = false := by simp [e3]
          have HSUM := Lib.hid (HOK.out E0.out E1.out E2.out e3)
          clear e3
          obtain ⟨⟨⟨f, t, a, s, ⟨k, o, d, u, v⟩⟩, gn, ge⟩, hR⟩ : ∃ R, takeG (xs.take m) = R := ⟨_, rfl⟩
          have HT := Lib.hid (refgtake_any (some ⟨gb, off, none⟩) m c (xs.take m) W0 HR3.out hmc)
          rw [hR] at HT
          have hgn : gn ≤ m := by
            have ht := takeG_told HR3.out.2
            rw [hR] at ht
            rcases ht with ⟨_, _, h, _⟩ | ⟨_, h, _⟩
            · have h2 := HR3.out.len
              dsimp only at h
              omega
            · dsimp only at h
              omega
          have HGR := Lib.hid hR
          clear hR
          have HT : Hid (Calls Tryd.prog 18 #[.slice (some ⟨gb, off, none⟩) m c] W0 fun e w' => e = .returned (.tuple #[.agg #[.int .i64 f, .int .i64 t, .int .i64 a, .int .i64 s, .int .i64 k, .int .i64 o, .int .i64 d, .int .i64 u, .int .i64 v], .int .i64 gn, .int .i64 ge]) ∧ Below W0.heap.size W0 w') := HT
          by_cases hq : ge = 0 ∧ gn = m
          · obtain ⟨rfl, rfl⟩ := hq
            have HR0 := Lib.hid (dec_good HL2.out HSUM.out HGR.out)
            have q1 : decide ((gn : Int) < (gn : Int)) = false := decide_eq_false (by omega)
            go_wp2_with fail
            refine HT.out.mono ?_
            rintro e w5 ⟨rfl, hb⟩
            have HZ5 := Lib.hid (HZ3.out.below hb)
            have HB5 := Lib.hid (HB3.out.trans (hb.mono HB3.out.size))
            have hlt5 := HZ5.out.lt
            clear hb
            have f0 := HZ5.out.cell 0 (by simp)
            have q0 := HZ5.out.free 0
            have f1 := HZ5.out.cell 1 (by simp)
            have q1 := HZ5.out.free 1
            have f2 := HZ5.out.cell 2 (by simp)
            have q2 := HZ5.out.free 2
            have f3 := HZ5.out.cell 3 (by simp)
            have q3 := HZ5.out.free 3
            have f4 := HZ5.out.cell 4 (by simp)
            have q4 := HZ5.out.free 4
            have f5 := HZ5.out.cell 5 (by simp)
            have q5 := HZ5.out.free 5
            have f6 := HZ5.out.cell 6 (by simp)
            have q6 := HZ5.out.free 6
            have f7 := HZ5.out.cell 7 (by simp)
            have q7 := HZ5.out.free 7
            have f8 := HZ5.out.cell 8 (by simp)
            have q8 := HZ5.out.free 8
            simp only [List.getD_cons_zero, List.getD_cons_succ, List.getD_nil] at f0 f1 f2 f3 f4 f5 f6 f7 f8
            go_wp2
            try simp only [Exit.inBlock, Exit.then]
            refine bodyPost_ret_by (results_row1 rfl _ _ w.heap.size 26 (0, 0) _ rfl ((HZ5.out.all f t a s k o d u v rfl).alloc _) Tryd.underlying26 rfl (by kernel_rfl)) rfl ?_
            exact ⟨by rw [HR0.out]; rfl, (below9 HB5.out _ _ _ _ _ _ _ _ _).alloc (below9 HB5.out _ _ _ _ _ _ _ _ _).size _⟩
          · have HR0 := Lib.hid (dec_form HL2.out HSUM.out HGR.out hq)
            clear HGR
            by_cases hge : ge = 0
            · have hgm : gn < m := by
                rcases Nat.lt_or_ge gn m with h | h
                · exact h
                · exact absurd ⟨hge, by omega⟩ hq
              subst hge
              have hgne : ((gn : Int) != (m : Int)) = true := by simp; omega
              have hgne2 : ((gn : Int) == (m : Int)) = false := by simp; omega
              have hgne3 : (gn == m) = false := by simp; omega
              clear hq
              go_wp2_with fail
              refine HT.out.mono ?_
              rintro e w5 ⟨rfl, hb⟩
              have HZ5 := Lib.hid (HZ3.out.below hb)
              have HB5 := Lib.hid (HB3.out.trans (hb.mono HB3.out.size))
              have hlt5 := HZ5.out.lt
              clear hb
              have f0 := HZ5.out.cell 0 (by simp)
              have q0 := HZ5.out.free 0
              have f1 := HZ5.out.cell 1 (by simp)
              have q1 := HZ5.out.free 1
              have f2 := HZ5.out.cell 2 (by simp)
              have q2 := HZ5.out.free 2
              have f3 := HZ5.out.cell 3 (by simp)
              have q3 := HZ5.out.free 3
              have f4 := HZ5.out.cell 4 (by simp)
              have q4 := HZ5.out.free 4
              have f5 := HZ5.out.cell 5 (by simp)
              have q5 := HZ5.out.free 5
              have f6 := HZ5.out.cell 6 (by simp)
              have q6 := HZ5.out.free 6
              have f7 := HZ5.out.cell 7 (by simp)
              have q7 := HZ5.out.free 7
              have f8 := HZ5.out.cell 8 (by simp)
              have q8 := HZ5.out.free 8
              simp only [List.getD_cons_zero, List.getD_cons_succ, List.getD_nil] at f0 f1 f2 f3 f4 f5 f6 f7 f8
              go_wp2
              try simp only [Exit.inBlock, Exit.then]
              refine bodyPost_ret_by (results_row1 rfl _ _ w.heap.size 26 (0, 0) _ rfl ((HZ5.out.all 0 0 0 0 0 0 0 0 0 rfl).alloc _) Tryd.underlying26 rfl (by kernel_rfl)) rfl ?_
              exact ⟨by rw [HR0.out]; rfl, (below9 HB5.out _ _ _ _ _ _ _ _ _).alloc (below9 HB5.out _ _ _ _ _ _ _ _ _).size _⟩
            · have heb : (ge == 0) = false := beq_eq_false_iff_ne.2 hge
              have heb2 : (ge != 0) = true := by simp [hge]
              clear hq
              go_wp2_with fail
              refine HT.out.mono ?_
              rintro e w5 ⟨rfl, hb⟩
              have HZ5 := Lib.hid (HZ3.out.below hb)
              have HB5 := Lib.hid (HB3.out.trans (hb.mono HB3.out.size))
              have hlt5 := HZ5.out.lt
              clear hb
              have f0 := HZ5.out.cell 0 (by simp)
              have q0 := HZ5.out.free 0
              have f1 := HZ5.out.cell 1 (by simp)
              have q1 := HZ5.out.free 1
              have f2 := HZ5.out.cell 2 (by simp)
              have q2 := HZ5.out.free 2
              have f3 := HZ5.out.cell 3 (by simp)
              have q3 := HZ5.out.free 3
              have f4 := HZ5.out.cell 4 (by simp)
              have q4 := HZ5.out.free 4
              have f5 := HZ5.out.cell 5 (by simp)
              have q5 := HZ5.out.free 5
              have f6 := HZ5.out.cell 6 (by simp)
              have q6 := HZ5.out.free 6
              have f7 := HZ5.out.cell 7 (by simp)
              have q7 := HZ5.out.free 7
              have f8 := HZ5.out.cell 8 (by simp)
              have q8 := HZ5.out.free 8
              simp only [List.getD_cons_zero, List.getD_cons_succ, List.getD_nil] at f0 f1 f2 f3 f4 f5 f6 f7 f8
              go_wp2
              try simp only [Exit.inBlock, Exit.then]
              refine bodyPost_ret_by (results_row1 rfl _ _ w.heap.size 26 (0, 0) _ rfl ((HZ5.out.all 0 0 0 0 0 0 0 0 0 rfl).alloc _) Tryd.underlying26 rfl (by kernel_rfl)) rfl ?_
              exact ⟨by rw [HR0.out]; rfl, (below9 HB5.out _ _ _ _ _ _ _ _ _).alloc (below9 HB5.out _ _ _ _ _ _ _ _ _).size _⟩
        · have n3 : (x3 != S / 16777216) = true := by simp [e3]
          have HR0 := Lib.hid (dec_sum HL2.out (HNO.out fun h => e3 h.2.2.2))
          clear e3
          have f0 := HZ3.out.cell 0 (by simp)
          have q0 := HZ3.out.free 0
          have f1 := HZ3.out.cell 1 (by simp)
          have q1 := HZ3.out.free 1
          have f2 := HZ3.out.cell 2 (by simp)
          have q2 := HZ3.out.free 2
          have f3 := HZ3.out.cell 3 (by simp)
          have q3 := HZ3.out.free 3
          have f4 := HZ3.out.cell 4 (by simp)
          have q4 := HZ3.out.free 4
          have f5 := HZ3.out.cell 5 (by simp)
          have q5 := HZ3.out.free 5
          have f6 := HZ3.out.cell 6 (by simp)
          have q6 := HZ3.out.free 6
          have f7 := HZ3.out.cell 7 (by simp)
          have q7 := HZ3.out.free 7
          have f8 := HZ3.out.cell 8 (by simp)
          have q8 := HZ3.out.free 8
          simp only [List.getD_cons_zero, List.getD_cons_succ, List.getD_nil] at f0 f1 f2 f3 f4 f5 f6 f7 f8
          go_wp2
          try simp only [Exit.inBlock, Exit.then]
          refine bodyPost_ret_by (results_row1 rfl _ _ w.heap.size 26 (0, 0) _ rfl ((HZ3.out.all 0 0 0 0 0 0 0 0 0 rfl)) Tryd.underlying26 rfl (by kernel_rfl)) rfl ?_
          exact ⟨by rw [HR0.out]; rfl, below9 HB3.out _ _ _ _ _ _ _ _ _⟩
      · have n2 : (x2 != S / 65536 % 256) = true := by simp [e2]
        have HR0 := Lib.hid (dec_sum HL2.out (HNO.out fun h => e2 h.2.2.1))
        clear e2
        have f0 := HZ3.out.cell 0 (by simp)
        have q0 := HZ3.out.free 0
        have f1 := HZ3.out.cell 1 (by simp)
        have q1 := HZ3.out.free 1
        have f2 := HZ3.out.cell 2 (by simp)
        have q2 := HZ3.out.free 2
        have f3 := HZ3.out.cell 3 (by simp)
        have q3 := HZ3.out.free 3
        have f4 := HZ3.out.cell 4 (by simp)
        have q4 := HZ3.out.free 4
        have f5 := HZ3.out.cell 5 (by simp)
        have q5 := HZ3.out.free 5
        have f6 := HZ3.out.cell 6 (by simp)
        have q6 := HZ3.out.free 6
        have f7 := HZ3.out.cell 7 (by simp)
        have q7 := HZ3.out.free 7
        have f8 := HZ3.out.cell 8 (by simp)
        have q8 := HZ3.out.free 8
        simp only [List.getD_cons_zero, List.getD_cons_succ, List.getD_nil] at f0 f1 f2 f3 f4 f5 f6 f7 f8
        go_wp2
        try simp only [Exit.inBlock, Exit.then]
        refine bodyPost_ret_by (results_row1 rfl _ _ w.heap.size 26 (0, 0) _ rfl ((HZ3.out.all 0 0 0 0 0 0 0 0 0 rfl)) Tryd.underlying26 rfl (by kernel_rfl)) rfl ?_
        exact ⟨by rw [HR0.out]; rfl, below9 HB3.out _ _ _ _ _ _ _ _ _⟩
    · have n1 : (x1 != S / 256 % 256) = true := by simp [e1]
      have HR0 := Lib.hid (dec_sum HL2.out (HNO.out fun h => e1 h.2.1))
      clear e1
      have f0 := HZ3.out.cell 0 (by simp)
      have q0 := HZ3.out.free 0
      have f1 := HZ3.out.cell 1 (by simp)
      have q1 := HZ3.out.free 1
      have f2 := HZ3.out.cell 2 (by simp)
      have q2 := HZ3.out.free 2
      have f3 := HZ3.out.cell 3 (by simp)
      have q3 := HZ3.out.free 3
      have f4 := HZ3.out.cell 4 (by simp)
      have q4 := HZ3.out.free 4
      have f5 := HZ3.out.cell 5 (by simp)
      have q5 := HZ3.out.free 5
      have f6 := HZ3.out.cell 6 (by simp)
      have q6 := HZ3.out.free 6
      have f7 := HZ3.out.cell 7 (by simp)
      have q7 := HZ3.out.free 7
      have f8 := HZ3.out.cell 8 (by simp)
      have q8 := HZ3.out.free 8
      simp only [List.getD_cons_zero, List.getD_cons_succ, List.getD_nil] at f0 f1 f2 f3 f4 f5 f6 f7 f8
      go_wp2
      try simp only [Exit.inBlock, Exit.then]
      refine bodyPost_ret_by (results_row1 rfl _ _ w.heap.size 26 (0, 0) _ rfl ((HZ3.out.all 0 0 0 0 0 0 0 0 0 rfl)) Tryd.underlying26 rfl (by kernel_rfl)) rfl ?_
      exact ⟨by rw [HR0.out]; rfl, below9 HB3.out _ _ _ _ _ _ _ _ _⟩
  · have n0 : (x0 != S % 256) = true := by simp [e0]
    have HR0 := Lib.hid (dec_sum HL2.out (HNO.out fun h => e0 h.1))
    clear e0
    have f0 := HZ3.out.cell 0 (by simp)
    have q0 := HZ3.out.free 0
    have f1 := HZ3.out.cell 1 (by simp)
    have q1 := HZ3.out.free 1
    have f2 := HZ3.out.cell 2 (by simp)
    have q2 := HZ3.out.free 2
    have f3 := HZ3.out.cell 3 (by simp)
    have q3 := HZ3.out.free 3
    have f4 := HZ3.out.cell 4 (by simp)
    have q4 := HZ3.out.free 4
    have f5 := HZ3.out.cell 5 (by simp)
    have q5 := HZ3.out.free 5
    have f6 := HZ3.out.cell 6 (by simp)
    have q6 := HZ3.out.free 6
    have f7 := HZ3.out.cell 7 (by simp)
    have q7 := HZ3.out.free 7
    have f8 := HZ3.out.cell 8 (by simp)
    have q8 := HZ3.out.free 8
    simp only [List.getD_cons_zero, List.getD_cons_succ, List.getD_nil] at f0 f1 f2 f3 f4 f5 f6 f7 f8
    go_wp2
    try simp only [Exit.inBlock, Exit.then]
    refine bodyPost_ret_by (results_row1 rfl _ _ w.heap.size 26 (0, 0) _ rfl ((HZ3.out.all 0 0 0 0 0 0 0 0 0 rfl)) Tryd.underlying26 rfl (by kernel_rfl)) rfl ?_
    exact ⟨by rw [HR0.out]; rfl, below9 HB3.out _ _ _ _ _ _ _ _ _⟩
end Go.Proofs.YtobkcedmjeidfaaDoor.gtake
