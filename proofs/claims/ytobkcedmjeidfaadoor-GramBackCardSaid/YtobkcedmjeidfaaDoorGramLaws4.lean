/- The walk of the law GramBack. -/
import Derived.Test.YtobkcedmjeidfaaDoorGDecode
import Derived.Test.YtobkcedmjeidfaaDoorGramLaws1
set_option linter.unusedVariables false
set_option linter.unusedSimpArgs false
namespace Go.Proofs.YtobkcedmjeidfaaDoor.graml4
open Go.RowKit Go.Proofs.YtobkcedmjeidfaaDoorW.PrintWords Go.Proofs.YtobkcedmjeidfaaDoor.base Go.Proofs.YtobkcedmjeidfaaDoor.mem Go.Proofs.YtobkcedmjeidfaaDoor.packp Go.Proofs.YtobkcedmjeidfaaDoor.packw Go.Proofs.YtobkcedmjeidfaaDoor.samew Go.Proofs.YtobkcedmjeidfaaDoor.wirep Go.Proofs.YtobkcedmjeidfaaDoor.wirew Go.Proofs.YtobkcedmjeidfaaDoor.takew Go.Proofs.YtobkcedmjeidfaaDoor.gramp Go.Proofs.YtobkcedmjeidfaaDoor.gramw Go.Proofs.YtobkcedmjeidfaaDoor.crcp Go.Proofs.YtobkcedmjeidfaaDoor.crcw Go.Proofs.YtobkcedmjeidfaaDoor.graml Go.Proofs.YtobkcedmjeidfaaDoor.gtake

set_option maxHeartbeats 4000000 in
set_option maxRecDepth 100000 in
theorem backLaw (g : G) (A : Option Addr) (n c : Nat) (xs : List Int) (w : World) (hg : g.I) (hr : RdB w A n xs) (hc : n ≤ c) (hn : n * 1 ≤ 140737488351232) (ht : Table w) :
    Calls Tryd.prog 6 #[g.agg, .slice A n c] w fun e w' => e = .returned (.bool true) ∧ Below w.heap.size w w' := by
  have HR := Lib.hid hr
  have HT := Lib.hid ht
  have VM := Lib.hid (gvalid_any g)
  have EM := Lib.hid (fun W (h : Table W) => gencode_any g W hg h)
  have PM := Lib.hid (fun W => gput_any none 0 0 [] g W (nilB _) hg (by decide))
  have TB : Hid (g.valid = true → decG (full g.enc) = (g, 0) ∧ (∀ i, i < g.enc.length → (takeG (g.enc.take i)).e = 30)) := Lib.hid fun h => ⟨dec_full h, takeG_short h⟩
  have HL8 := G.enc_len hg
  have HD0 : Hid (∀ W, RdB W A n xs → Table W → Calls Tryd.prog 19 #[.slice A n c] W fun e w' => e = .returned (.tuple #[(decG xs).1.agg, .int .i64 (decG xs).2]) ∧ Below W.heap.size W w') := Lib.hid fun W h k => gdecode_any A n c xs W h hc k
  have HTold := Lib.hid (decG_told hr.2)
  clear hr ht
  generalize decG xs = D at HD0 HTold
  obtain ⟨f, t, a, s, ⟨k, o, d, u, v⟩⟩ := g
  obtain ⟨⟨x0, x1, x2, x3, ⟨x4, x5, x6, x7, x8⟩⟩, r⟩ := D
  have HD : Hid (∀ W, RdB W A n xs → Table W → Calls Tryd.prog 19 #[.slice A n c] W fun e w' => e = .returned (.tuple #[.agg #[.int .i64 x0, .int .i64 x1, .int .i64 x2, .int .i64 x3, .int .i64 x4, .int .i64 x5, .int .i64 x6, .int .i64 x7, .int .i64 x8], .int .i64 r]) ∧ Below W.heap.size W w') := HD0
  have VM : Hid (∀ W, Calls Tryd.prog 12 #[.agg #[.int .i64 f, .int .i64 t, .int .i64 a, .int .i64 s, .int .i64 k, .int .i64 o, .int .i64 d, .int .i64 u, .int .i64 v]] W fun e w' => e = .returned (.bool (G.valid ⟨f, t, a, s, ⟨k, o, d, u, v⟩⟩)) ∧ Below W.heap.size W w') := VM
  have EM : Hid (∀ W, Table W → Calls Tryd.prog 10 #[.agg #[.int .i64 f, .int .i64 t, .int .i64 a, .int .i64 s, .int .i64 k, .int .i64 o, .int .i64 d, .int .i64 u, .int .i64 v]] W (RetE W (G.valid ⟨f, t, a, s, ⟨k, o, d, u, v⟩⟩) (G.enc ⟨f, t, a, s, ⟨k, o, d, u, v⟩⟩))) := EM
  have PM : Hid (∀ W, Calls Tryd.prog 15 #[.slice none 0 0, .agg #[.int .i64 f, .int .i64 t, .int .i64 a, .int .i64 s, .int .i64 k, .int .i64 o, .int .i64 d, .int .i64 u, .int .i64 v]] W (RetB W ([] ++ G.enc ⟨f, t, a, s, ⟨k, o, d, u, v⟩⟩))) := PM
  have hn' : n ≤ 140737488351232 := by omega
  show Calls Tryd.prog 6 #[.agg #[.int .i64 f, .int .i64 t, .int .i64 a, .int .i64 s, .int .i64 k, .int .i64 o, .int .i64 d, .int .i64 u, .int .i64 v], .slice A n c] w _
  have HX1 : Hid (RowH (w.alloc (.cells #[.int .i64 f, .int .i64 t, .int .i64 a, .int .i64 s, .int .i64 k, .int .i64 o, .int .i64 d, .int .i64 u, .int .i64 v] 26)) w.heap.size [f, t, a, s, k, o, d, u, v]) := Lib.hid (RowH.new w w.heap.size rfl [f, t, a, s, k, o, d, u, v])
  have HB1 := Lib.hid (below_alloc (Below.refl w.heap.size w) (.cells #[.int .i64 f, .int .i64 t, .int .i64 a, .int .i64 s, .int .i64 k, .int .i64 o, .int .i64 d, .int .i64 u, .int .i64 v] 26))
  have hs1 := HB1.out.size
  have HT1 := Lib.hid (HT.out.below HB1.out)
  clear HD0 hn hg
  go_enter Tryd.func6, Tryd.ntmps6
  go_wp2_with fail
  refine (wakes_any _ HT1.out).mono ?_
  rintro e w2 ⟨rfl, hb⟩
  have HB2 := Lib.hid (HB1.out.trans (hb.mono hs1))
  have hs2 := HB2.out.size
  have HX2 := Lib.hid (HX1.out.below hb)
  have e0 := HX2.out.cell 0 (by simp)
  have m0 := HX2.out.free 0
  have e1 := HX2.out.cell 1 (by simp)
  have m1 := HX2.out.free 1
  have e2 := HX2.out.cell 2 (by simp)
  have m2 := HX2.out.free 2
  have e3 := HX2.out.cell 3 (by simp)
  have m3 := HX2.out.free 3
  have e4 := HX2.out.cell 4 (by simp)
  have m4 := HX2.out.free 4
  have e5 := HX2.out.cell 5 (by simp)
  have m5 := HX2.out.free 5
  have e6 := HX2.out.cell 6 (by simp)
  have m6 := HX2.out.free 6
  have e7 := HX2.out.cell 7 (by simp)
  have m7 := HX2.out.free 7
  have e8 := HX2.out.cell 8 (by simp)
  have m8 := HX2.out.free 8
  simp only [List.getD_cons_zero, List.getD_cons_succ, List.getD_nil] at e0 e1 e2 e3 e4 e5 e6 e7 e8
  clear hb
  go_wp2_with fail
  refine (VM.out _).mono ?_
  rintro e w3 ⟨rfl, hb⟩
  have HB3 := Lib.hid (HB2.out.trans (hb.mono hs2))
  have hs3 := HB3.out.size
  have HX3 := Lib.hid (HX2.out.below hb)
  have HT3 := Lib.hid (HT.out.below HB3.out)
  clear e0 e1 e2 e3 e4 e5 e6 e7 e8 m0 m1 m2 m3 m4 m5 m6 m7 m8
  have e0 := HX3.out.cell 0 (by simp)
  have m0 := HX3.out.free 0
  have e1 := HX3.out.cell 1 (by simp)
  have m1 := HX3.out.free 1
  have e2 := HX3.out.cell 2 (by simp)
  have m2 := HX3.out.free 2
  have e3 := HX3.out.cell 3 (by simp)
  have m3 := HX3.out.free 3
  have e4 := HX3.out.cell 4 (by simp)
  have m4 := HX3.out.free 4
  have e5 := HX3.out.cell 5 (by simp)
  have m5 := HX3.out.free 5
  have e6 := HX3.out.cell 6 (by simp)
  have m6 := HX3.out.free 6
  have e7 := HX3.out.cell 7 (by simp)
  have m7 := HX3.out.free 7
  have e8 := HX3.out.cell 8 (by simp)
  have m8 := HX3.out.free 8
  simp only [List.getD_cons_zero, List.getD_cons_succ, List.getD_nil] at e0 e1 e2 e3 e4 e5 e6 e7 e8
  clear hb
  cases vm : G.valid ⟨f, t, a, s, ⟨k, o, d, u, v⟩⟩
  · have HBx := Lib.hid HB3.out
    have HRx := Lib.hid (HR.out.below HBx.out)
    have HTx := Lib.hid (HT.out.below HBx.out)
    go_wp2_with fail
    refine (HD.out _ HRx.out HTx.out).mono ?_
    rintro e w8 ⟨rfl, hb⟩
    have HB8 := Lib.hid (HBx.out.trans (hb.mono HBx.out.size))
    have hs8 := HB8.out.size
    clear hb
    have HB9 := Lib.hid (HB8.out.alloc hs8 (.cells #[.int .i64 x0, .int .i64 x1, .int .i64 x2, .int .i64 x3, .int .i64 x4, .int .i64 x5, .int .i64 x6, .int .i64 x7, .int .i64 x8] 26))
    have HX9 : Hid (RowH (w8.alloc (.cells #[.int .i64 x0, .int .i64 x1, .int .i64 x2, .int .i64 x3, .int .i64 x4, .int .i64 x5, .int .i64 x6, .int .i64 x7, .int .i64 x8] 26)) w8.heap.size [x0, x1, x2, x3, x4, x5, x6, x7, x8]) := Lib.hid (RowH.new w8 w8.heap.size rfl [x0, x1, x2, x3, x4, x5, x6, x7, x8])
    have HT9 := Lib.hid (HT.out.below HB9.out)
    rcases HTold.out with ⟨h1, h2⟩ | ⟨h1, h2, h3⟩
    · try dsimp only at h1 h2
      unfold noG at h1
      injection h1 with z0 z1 z2 z3 z4
      injection z4 with z4 z5 z6 z7 z8
      subst z0 z1 z2 z3 z4 z5 z6 z7 z8
      rcases h2 with rfl | rfl | rfl
      · go_wp2
        go_ret
        exact ⟨rfl, HB9.out⟩
      · go_wp2
        go_ret
        exact ⟨rfl, HB9.out⟩
      · go_wp2
        go_ret
        exact ⟨rfl, HB9.out⟩
    · try dsimp only at h1 h2 h3
      subst h1
      have hxi : G.I ⟨x0, x1, x2, x3, ⟨x4, x5, x6, x7, x8⟩⟩ := valid_I h2
      have VX : Hid (∀ W, Calls Tryd.prog 12 #[.agg #[.int .i64 x0, .int .i64 x1, .int .i64 x2, .int .i64 x3, .int .i64 x4, .int .i64 x5, .int .i64 x6, .int .i64 x7, .int .i64 x8]] W fun e w' => e = .returned (.bool (G.valid ⟨x0, x1, x2, x3, ⟨x4, x5, x6, x7, x8⟩⟩)) ∧ Below W.heap.size W w') := Lib.hid (gvalid_any ⟨x0, x1, x2, x3, ⟨x4, x5, x6, x7, x8⟩⟩)
      have EX : Hid (∀ W, Table W → Calls Tryd.prog 10 #[.agg #[.int .i64 x0, .int .i64 x1, .int .i64 x2, .int .i64 x3, .int .i64 x4, .int .i64 x5, .int .i64 x6, .int .i64 x7, .int .i64 x8]] W (RetE W (G.valid ⟨x0, x1, x2, x3, ⟨x4, x5, x6, x7, x8⟩⟩) (G.enc ⟨x0, x1, x2, x3, ⟨x4, x5, x6, x7, x8⟩⟩))) := Lib.hid (fun W h => gencode_any ⟨x0, x1, x2, x3, ⟨x4, x5, x6, x7, x8⟩⟩ W hxi h)
      rw [h2] at VX EX
      have H3 := Lib.hid h3
      generalize G.enc ⟨x0, x1, x2, x3, ⟨x4, x5, x6, x7, x8⟩⟩ = EE at EX H3
      clear hxi h2 h3
      go_wp2_with fail
      refine (EX.out _ HT9.out).mono ?_
      rintro e wa ⟨A6, n6, c6, rfl, ho, hb⟩
      rw [if_pos rfl] at ho ⊢
      rw [H3.out] at ho
      have HO6 := Lib.hid ho.rd
      have HBa := Lib.hid (HB9.out.trans (hb.mono HB9.out.size))
      have hsa := HBa.out.size
      have HXa := Lib.hid (HX9.out.below hb)
      have HRa := Lib.hid (HR.out.below HBa.out)
      clear ho hb
      have y0 := HXa.out.cell 0 (by simp)
      have p0 := HXa.out.free 0
      have y1 := HXa.out.cell 1 (by simp)
      have p1 := HXa.out.free 1
      have y2 := HXa.out.cell 2 (by simp)
      have p2 := HXa.out.free 2
      have y3 := HXa.out.cell 3 (by simp)
      have p3 := HXa.out.free 3
      have y4 := HXa.out.cell 4 (by simp)
      have p4 := HXa.out.free 4
      have y5 := HXa.out.cell 5 (by simp)
      have p5 := HXa.out.free 5
      have y6 := HXa.out.cell 6 (by simp)
      have p6 := HXa.out.free 6
      have y7 := HXa.out.cell 7 (by simp)
      have p7 := HXa.out.free 7
      have y8 := HXa.out.cell 8 (by simp)
      have p8 := HXa.out.free 8
      simp only [List.getD_cons_zero, List.getD_cons_succ, List.getD_nil] at y0 y1 y2 y3 y4 y5 y6 y7 y8
      go_wp2_with (first | (go_at_call 14; refine (same_any _ _ _ _ _ _ _ _ _ HO6.out HRa.out).mono ?_; rintro e wq ⟨rfl, ⟨qq, rfl⟩⟩; rw [eqL_self]; have HBq := Lib.hid (pw_below_drewN HBa.out qq); have hsq := HBq.out.size) | (go_at_call 12; refine (VX.out _).mono ?_; rintro e wv ⟨rfl, hb⟩; have HBv := Lib.hid (HBq.out.trans (hb.mono hsq)); clear hb))
      go_ret
      exact ⟨rfl, HBv.out⟩
  · obtain ⟨hTB, hTS⟩ := TB.out vm
    have HTB := Lib.hid hTB
    have HTS := Lib.hid hTS
    rw [vm] at EM
    clear hTB hTS vm TB
    generalize G.enc ⟨f, t, a, s, ⟨k, o, d, u, v⟩⟩ = E at HTB HTS HL8 PM EM
    go_wp2_with fail
    refine (EM.out _ HT3.out).mono ?_
    rintro e w4 ⟨A1, n1, c1, rfl, ho, hb⟩
    rw [if_pos rfl] at ho ⊢
    have HB4 := Lib.hid (HB3.out.trans (hb.mono hs3))
    have hs4 := HB4.out.size
    have HX4 := Lib.hid (HX3.out.below hb)
    have HT4 := Lib.hid (HT.out.below HB4.out)
    have hdec := gdecode_any A1 n1 c1 (full E) w4 ho.rd ho.cap HT4.out
    rw [HTB.out] at hdec
    have HDE : Hid (Calls Tryd.prog 19 #[.slice A1 n1 c1] w4 fun e w' => e = .returned (.tuple #[.agg #[.int .i64 f, .int .i64 t, .int .i64 a, .int .i64 s, .int .i64 k, .int .i64 o, .int .i64 d, .int .i64 u, .int .i64 v], .int .i64 0]) ∧ Below w4.heap.size w4 w') := Lib.hid hdec
    clear ho hb hdec
    go_wp2_with fail
    refine HDE.out.mono ?_
    rintro e w5 ⟨rfl, hb⟩
    have HB5 := Lib.hid (HB4.out.trans (hb.mono hs4))
    have hs5 := HB5.out.size
    have HB6 := Lib.hid (HB5.out.alloc hs5 (.cells #[.int .i64 f, .int .i64 t, .int .i64 a, .int .i64 s, .int .i64 k, .int .i64 o, .int .i64 d, .int .i64 u, .int .i64 v] 26))
    have hs6 := HB6.out.size
    have HX5 := Lib.hid (HX4.out.below hb)
    have hlt5 := HX5.out.lt
    have HX6 := Lib.hid (HX5.out.alloc (.cells #[.int .i64 f, .int .i64 t, .int .i64 a, .int .i64 s, .int .i64 k, .int .i64 o, .int .i64 d, .int .i64 u, .int .i64 v] 26))
    clear hb e0 e1 e2 e3 e4 e5 e6 e7 e8 m0 m1 m2 m3 m4 m5 m6 m7 m8
    have e0 := HX5.out.cell 0 (by simp)
    have m0 := HX5.out.free 0
    have e1 := HX5.out.cell 1 (by simp)
    have m1 := HX5.out.free 1
    have e2 := HX5.out.cell 2 (by simp)
    have m2 := HX5.out.free 2
    have e3 := HX5.out.cell 3 (by simp)
    have m3 := HX5.out.free 3
    have e4 := HX5.out.cell 4 (by simp)
    have m4 := HX5.out.free 4
    have e5 := HX5.out.cell 5 (by simp)
    have m5 := HX5.out.free 5
    have e6 := HX5.out.cell 6 (by simp)
    have m6 := HX5.out.free 6
    have e7 := HX5.out.cell 7 (by simp)
    have m7 := HX5.out.free 7
    have e8 := HX5.out.cell 8 (by simp)
    have m8 := HX5.out.free 8
    simp only [List.getD_cons_zero, List.getD_cons_succ, List.getD_nil] at e0 e1 e2 e3 e4 e5 e6 e7 e8
    go_wp2_with fail
    refine (PM.out _).mono ?_
    rintro e w7 ⟨A7, n7, c7, rfl, ho, hb⟩
    rw [List.nil_append] at ho
    have hle := ho.len
    subst hle
    have hcap := ho.cap
    have HO7 := Lib.hid (ho.less hs6)
    have HB7 := Lib.hid (HB6.out.trans (hb.mono hs6))
    clear hb ho e0 e1 e2 e3 e4 e5 e6 e7 e8 m0 m1 m2 m3 m4 m5 m6 m7 m8
    go_wp2
    go_loopw [10] (fun i wr => ∃ (j : Nat), j ≤ E.length ∧ i = .int .i64 j ∧ Aside0 (OwB wr w.heap.size A7 E.length c7 E) ∧ Aside0 (Below w.heap.size w wr)) (fun i _ => E.length - (intOf i).toNat)
    case atStart => exact ⟨0, by omega, rfl, ⟨HO7.out⟩, ⟨HB7.out⟩⟩
    case round =>
      obtain ⟨j, hj, rfl, HOj, HBj⟩ := hrel
      by_cases hlt2 : j < E.length
      · have hjc : j ≤ c7 := by omega
        have HTj := Lib.hid (gtake_any A7 j c7 (E.take j) wr (HOj.out.rd.take j hj) hjc)
        have h30 := HTS.out j hlt2
        generalize takeG (E.take j) = R at HTj h30
        obtain ⟨⟨y0, y1, y2, y3, ⟨y4, y5, y6, y7, y8⟩⟩, yn, ye⟩ := R
        dsimp only at h30
        subst h30
        have HTj : Hid (Calls Tryd.prog 17 #[.slice A7 j c7] wr fun e w' => e = .returned (.tuple #[.agg #[.int .i64 y0, .int .i64 y1, .int .i64 y2, .int .i64 y3, .int .i64 y4, .int .i64 y5, .int .i64 y6, .int .i64 y7, .int .i64 y8], .int .i64 yn, .int .i64 30]) ∧ Below wr.heap.size wr w') := HTj
        go_wp2_with fail
        refine HTj.out.mono ?_
        rintro e w8 ⟨rfl, hb⟩
        have HO8 := Lib.hid (HOj.out.below hb)
        have HB8 := Lib.hid (HBj.out.trans (hb.mono HBj.out.size))
        have HO9 := Aside0.mk (HO8.out.alloc (.cells #[.int .i64 y0, .int .i64 y1, .int .i64 y2, .int .i64 y3, .int .i64 y4, .int .i64 y5, .int .i64 y6, .int .i64 y7, .int .i64 y8] 26))
        have HB9 := Aside0.mk (HB8.out.alloc HB8.out.size (.cells #[.int .i64 y0, .int .i64 y1, .int .i64 y2, .int .i64 y3, .int .i64 y4, .int .i64 y5, .int .i64 y6, .int .i64 y7, .int .i64 y8] 26))
        clear hb
        go_wp2
        go_roundw
        case rel => exact ⟨j + 1, by omega, by go_num, HO9, HB9⟩
        case measure => simp [intOf]; omega
      · have HBx := Lib.hid HBj.out
        have HRx := Lib.hid (HR.out.below HBx.out)
        have HTx := Lib.hid (HT.out.below HBx.out)
        go_wp2_with fail
        refine (HD.out _ HRx.out HTx.out).mono ?_
        rintro e w8 ⟨rfl, hb⟩
        have HB8 := Lib.hid (HBx.out.trans (hb.mono HBx.out.size))
        have hs8 := HB8.out.size
        clear hb
        have HB9 := Lib.hid (HB8.out.alloc hs8 (.cells #[.int .i64 x0, .int .i64 x1, .int .i64 x2, .int .i64 x3, .int .i64 x4, .int .i64 x5, .int .i64 x6, .int .i64 x7, .int .i64 x8] 26))
        have HX9 : Hid (RowH (w8.alloc (.cells #[.int .i64 x0, .int .i64 x1, .int .i64 x2, .int .i64 x3, .int .i64 x4, .int .i64 x5, .int .i64 x6, .int .i64 x7, .int .i64 x8] 26)) w8.heap.size [x0, x1, x2, x3, x4, x5, x6, x7, x8]) := Lib.hid (RowH.new w8 w8.heap.size rfl [x0, x1, x2, x3, x4, x5, x6, x7, x8])
        have HT9 := Lib.hid (HT.out.below HB9.out)
        rcases HTold.out with ⟨h1, h2⟩ | ⟨h1, h2, h3⟩
        · try dsimp only at h1 h2
          unfold noG at h1
          injection h1 with z0 z1 z2 z3 z4
          injection z4 with z4 z5 z6 z7 z8
          subst z0 z1 z2 z3 z4 z5 z6 z7 z8
          rcases h2 with rfl | rfl | rfl
          · go_wp2
            go_ret
            exact ⟨rfl, HB9.out⟩
          · go_wp2
            go_ret
            exact ⟨rfl, HB9.out⟩
          · go_wp2
            go_ret
            exact ⟨rfl, HB9.out⟩
        · try dsimp only at h1 h2 h3
          subst h1
          have hxi : G.I ⟨x0, x1, x2, x3, ⟨x4, x5, x6, x7, x8⟩⟩ := valid_I h2
          have VX : Hid (∀ W, Calls Tryd.prog 12 #[.agg #[.int .i64 x0, .int .i64 x1, .int .i64 x2, .int .i64 x3, .int .i64 x4, .int .i64 x5, .int .i64 x6, .int .i64 x7, .int .i64 x8]] W fun e w' => e = .returned (.bool (G.valid ⟨x0, x1, x2, x3, ⟨x4, x5, x6, x7, x8⟩⟩)) ∧ Below W.heap.size W w') := Lib.hid (gvalid_any ⟨x0, x1, x2, x3, ⟨x4, x5, x6, x7, x8⟩⟩)
          have EX : Hid (∀ W, Table W → Calls Tryd.prog 10 #[.agg #[.int .i64 x0, .int .i64 x1, .int .i64 x2, .int .i64 x3, .int .i64 x4, .int .i64 x5, .int .i64 x6, .int .i64 x7, .int .i64 x8]] W (RetE W (G.valid ⟨x0, x1, x2, x3, ⟨x4, x5, x6, x7, x8⟩⟩) (G.enc ⟨x0, x1, x2, x3, ⟨x4, x5, x6, x7, x8⟩⟩))) := Lib.hid (fun W h => gencode_any ⟨x0, x1, x2, x3, ⟨x4, x5, x6, x7, x8⟩⟩ W hxi h)
          rw [h2] at VX EX
          have H3 := Lib.hid h3
          generalize G.enc ⟨x0, x1, x2, x3, ⟨x4, x5, x6, x7, x8⟩⟩ = EE at EX H3
          clear hxi h2 h3
          go_wp2_with fail
          refine (EX.out _ HT9.out).mono ?_
          rintro e wa ⟨A6, n6, c6, rfl, ho, hb⟩
          rw [if_pos rfl] at ho ⊢
          rw [H3.out] at ho
          have HO6 := Lib.hid ho.rd
          have HBa := Lib.hid (HB9.out.trans (hb.mono HB9.out.size))
          have hsa := HBa.out.size
          have HXa := Lib.hid (HX9.out.below hb)
          have HRa := Lib.hid (HR.out.below HBa.out)
          clear ho hb
          have y0 := HXa.out.cell 0 (by simp)
          have p0 := HXa.out.free 0
          have y1 := HXa.out.cell 1 (by simp)
          have p1 := HXa.out.free 1
          have y2 := HXa.out.cell 2 (by simp)
          have p2 := HXa.out.free 2
          have y3 := HXa.out.cell 3 (by simp)
          have p3 := HXa.out.free 3
          have y4 := HXa.out.cell 4 (by simp)
          have p4 := HXa.out.free 4
          have y5 := HXa.out.cell 5 (by simp)
          have p5 := HXa.out.free 5
          have y6 := HXa.out.cell 6 (by simp)
          have p6 := HXa.out.free 6
          have y7 := HXa.out.cell 7 (by simp)
          have p7 := HXa.out.free 7
          have y8 := HXa.out.cell 8 (by simp)
          have p8 := HXa.out.free 8
          simp only [List.getD_cons_zero, List.getD_cons_succ, List.getD_nil] at y0 y1 y2 y3 y4 y5 y6 y7 y8
          go_wp2_with (first | (go_at_call 14; refine (same_any _ _ _ _ _ _ _ _ _ HO6.out HRa.out).mono ?_; rintro e wq ⟨rfl, ⟨qq, rfl⟩⟩; rw [eqL_self]; have HBq := Lib.hid (pw_below_drewN HBa.out qq); have hsq := HBq.out.size) | (go_at_call 12; refine (VX.out _).mono ?_; rintro e wv ⟨rfl, hb⟩; have HBv := Lib.hid (HBq.out.trans (hb.mono hsq)); clear hb))
          go_ret
          exact ⟨rfl, HBv.out⟩
end Go.Proofs.YtobkcedmjeidfaaDoor.graml4
