/- The walk of the law GramTakes. -/
import Derived.Test.YtobkcedmjeidfaaDoorGDecode
import Derived.Test.YtobkcedmjeidfaaDoorGramLaws1
set_option linter.unusedVariables false
set_option linter.unusedSimpArgs false
namespace Go.Proofs.YtobkcedmjeidfaaDoor.graml3
open Go.RowKit Go.Proofs.YtobkcedmjeidfaaDoorW.PrintWords Go.Proofs.YtobkcedmjeidfaaDoor.base Go.Proofs.YtobkcedmjeidfaaDoor.mem Go.Proofs.YtobkcedmjeidfaaDoor.packp Go.Proofs.YtobkcedmjeidfaaDoor.packw Go.Proofs.YtobkcedmjeidfaaDoor.samew Go.Proofs.YtobkcedmjeidfaaDoor.wirep Go.Proofs.YtobkcedmjeidfaaDoor.wirew Go.Proofs.YtobkcedmjeidfaaDoor.takew Go.Proofs.YtobkcedmjeidfaaDoor.gramp Go.Proofs.YtobkcedmjeidfaaDoor.gramw Go.Proofs.YtobkcedmjeidfaaDoor.crcp Go.Proofs.YtobkcedmjeidfaaDoor.crcw Go.Proofs.YtobkcedmjeidfaaDoor.graml Go.Proofs.YtobkcedmjeidfaaDoor.gtake

set_option maxHeartbeats 4000000 in
set_option maxRecDepth 100000 in
theorem takesLaw (A : Option Addr) (n c : Nat) (xs : List Int) (w : World) (hr : RdB w A n xs) (hc : n ≤ c) (hn : n * 1 ≤ 140737488351232) (ht : Table w) :
    Calls Tryd.prog 5 #[.slice A n c] w fun e w' => e = .returned (.bool true) ∧ Below w.heap.size w w' := by
  have HR := Lib.hid hr
  have HTb := Lib.hid ht
  have HT := Lib.hid fun W (h : RdB W A n xs) => gtake_any A n c xs W h hc
  have HU := Lib.hid fun W (h : RdB W A n xs) => refgtake_any A n c xs W h hc
  have HD := Lib.hid fun W (h : RdB W A n xs) (k : Table W) => gdecode_any A n c xs W h hc k
  have HE := Lib.hid fun W (h : RdB W A n xs) => refgdecode_any A n c xs W h hc
  clear hr ht
  generalize takeG xs = R at HT HU
  generalize decG xs = D at HD HE
  obtain ⟨⟨f, t, a, s, ⟨k, o, d, u, v⟩⟩, q, r⟩ := R
  obtain ⟨⟨f2, t2, a2, s2, ⟨k2, o2, d2, u2, v2⟩⟩, r2⟩ := D
  have HT : Hid (∀ W, RdB W A n xs → Calls Tryd.prog 17 #[.slice A n c] W fun e w' => e = .returned (.tuple #[.agg #[.int .i64 f, .int .i64 t, .int .i64 a, .int .i64 s, .int .i64 k, .int .i64 o, .int .i64 d, .int .i64 u, .int .i64 v], .int .i64 q, .int .i64 r]) ∧ Below W.heap.size W w') := HT
  have HU : Hid (∀ W, RdB W A n xs → Calls Tryd.prog 18 #[.slice A n c] W fun e w' => e = .returned (.tuple #[.agg #[.int .i64 f, .int .i64 t, .int .i64 a, .int .i64 s, .int .i64 k, .int .i64 o, .int .i64 d, .int .i64 u, .int .i64 v], .int .i64 q, .int .i64 r]) ∧ Below W.heap.size W w') := HU
  have HD : Hid (∀ W, RdB W A n xs → Table W → Calls Tryd.prog 19 #[.slice A n c] W fun e w' => e = .returned (.tuple #[.agg #[.int .i64 f2, .int .i64 t2, .int .i64 a2, .int .i64 s2, .int .i64 k2, .int .i64 o2, .int .i64 d2, .int .i64 u2, .int .i64 v2], .int .i64 r2]) ∧ Below W.heap.size W w') := HD
  have HE : Hid (∀ W, RdB W A n xs → Calls Tryd.prog 20 #[.slice A n c] W fun e w' => e = .returned (.tuple #[.agg #[.int .i64 f2, .int .i64 t2, .int .i64 a2, .int .i64 s2, .int .i64 k2, .int .i64 o2, .int .i64 d2, .int .i64 u2, .int .i64 v2], .int .i64 r2]) ∧ Below W.heap.size W w') := HE
  go_enter Tryd.func5, Tryd.ntmps5
  go_wp2_with fail
  refine (wakes_any _ HTb.out).mono ?_
  rintro e w1 ⟨rfl, hb⟩
  have HB1 := Lib.hid hb
  have HR1 := Lib.hid (HR.out.below hb)
  clear hb
  go_wp2_with fail
  refine (HT.out _ HR1.out).mono ?_
  rintro e w2 ⟨rfl, hb⟩
  have HB2 := Lib.hid ((HB1.out.trans (hb.mono HB1.out.size)))
  have hs2 := HB2.out.size
  have HB3 := Lib.hid (HB2.out.alloc hs2 (.cells #[.int .i64 f, .int .i64 t, .int .i64 a, .int .i64 s, .int .i64 k, .int .i64 o, .int .i64 d, .int .i64 u, .int .i64 v] 26))
  have HR3 := Lib.hid (HR.out.below HB3.out)
  have HX3 := Lib.hid (RowH.new w2 w2.heap.size rfl [f, t, a, s, k, o, d, u, v])
  have HX3 : Hid (RowH (w2.alloc (.cells #[.int .i64 f, .int .i64 t, .int .i64 a, .int .i64 s, .int .i64 k, .int .i64 o, .int .i64 d, .int .i64 u, .int .i64 v] 26)) w2.heap.size [f, t, a, s, k, o, d, u, v]) := HX3
  have hs3 := HB3.out.size
  clear hb
  go_wp2_with fail
  refine (HU.out _ HR3.out).mono ?_
  rintro e w4 ⟨rfl, hb⟩
  have HB4 := Lib.hid (HB3.out.trans (hb.mono hs3))
  have hs4 := HB4.out.size
  have HB5 := Lib.hid (HB4.out.alloc hs4 (.cells #[.int .i64 f, .int .i64 t, .int .i64 a, .int .i64 s, .int .i64 k, .int .i64 o, .int .i64 d, .int .i64 u, .int .i64 v] 26))
  have HR5 := Lib.hid (HR.out.below HB5.out)
  have HX4 := Lib.hid (HX3.out.below hb)
  have HX5 := Lib.hid (HX4.out.alloc (.cells #[.int .i64 f, .int .i64 t, .int .i64 a, .int .i64 s, .int .i64 k, .int .i64 o, .int .i64 d, .int .i64 u, .int .i64 v] 26))
  have HY5 : Hid (RowH (w4.alloc (.cells #[.int .i64 f, .int .i64 t, .int .i64 a, .int .i64 s, .int .i64 k, .int .i64 o, .int .i64 d, .int .i64 u, .int .i64 v] 26)) w4.heap.size [f, t, a, s, k, o, d, u, v]) := Lib.hid (RowH.new w4 w4.heap.size rfl [f, t, a, s, k, o, d, u, v])
  have hlt := HX4.out.lt
  have HT5 := Lib.hid (HTb.out.below HB5.out)
  have e0 := HX4.out.cell 0 (by simp)
  have m0 := HX4.out.free 0
  have e1 := HX4.out.cell 1 (by simp)
  have m1 := HX4.out.free 1
  have e2 := HX4.out.cell 2 (by simp)
  have m2 := HX4.out.free 2
  have e3 := HX4.out.cell 3 (by simp)
  have m3 := HX4.out.free 3
  have e4 := HX4.out.cell 4 (by simp)
  have m4 := HX4.out.free 4
  have e5 := HX4.out.cell 5 (by simp)
  have m5 := HX4.out.free 5
  have e6 := HX4.out.cell 6 (by simp)
  have m6 := HX4.out.free 6
  have e7 := HX4.out.cell 7 (by simp)
  have m7 := HX4.out.free 7
  have e8 := HX4.out.cell 8 (by simp)
  have m8 := HX4.out.free 8
  simp only [List.getD_cons_zero, List.getD_cons_succ, List.getD_nil] at e0 e1 e2 e3 e4 e5 e6 e7 e8
  clear hb
  go_wp2_with fail
  generalize w4.alloc (.cells #[.int .i64 f, .int .i64 t, .int .i64 a, .int .i64 s, .int .i64 k, .int .i64 o, .int .i64 d, .int .i64 u, .int .i64 v] 26) = w5 at HB5 HR5 HX5 HY5 HT5 ⊢
  generalize w4.heap.size = b4 at HY5 hlt ⊢
  generalize w2.heap.size = b2 at HX5 hlt hs2 ⊢
  clear HX4 HX3 HB4 HB3 HR3 e0 e1 e2 e3 e4 e5 e6 e7 e8 m0 m1 m2 m3 m4 m5 m6 m7 m8 hs4 hs3
  refine (HD.out _ HR5.out HT5.out).mono ?_
  rintro e w6 ⟨rfl, hb⟩
  have HB6 := Lib.hid (HB5.out.trans (hb.mono HB5.out.size))
  have HX6 := Lib.hid (HX5.out.below hb)
  have HY6 := Lib.hid (HY5.out.below hb)
  have HB7 := Lib.hid (below9c hs2 HB6.out (.int .i64 f2) (.int .i64 t2) (.int .i64 a2) (.int .i64 s2) (.int .i64 k2) (.int .i64 o2) (.int .i64 d2) (.int .i64 u2) (.int .i64 v2))
  have HX7 := Lib.hid (HX6.out.all f2 t2 a2 s2 k2 o2 d2 u2 v2 rfl)
  have HY7 := Lib.hid (HY6.out.others (b' := b2) (by omega) (.int .i64 f2) (.int .i64 t2) (.int .i64 a2) (.int .i64 s2) (.int .i64 k2) (.int .i64 o2) (.int .i64 d2) (.int .i64 u2) (.int .i64 v2))
  have HR7 := Lib.hid (HR.out.below HB7.out)
  have e0 := HX6.out.cell 0 (by simp)
  have m0 := HX6.out.free 0
  have e1 := HX6.out.cell 1 (by simp)
  have m1 := HX6.out.free 1
  have e2 := HX6.out.cell 2 (by simp)
  have m2 := HX6.out.free 2
  have e3 := HX6.out.cell 3 (by simp)
  have m3 := HX6.out.free 3
  have e4 := HX6.out.cell 4 (by simp)
  have m4 := HX6.out.free 4
  have e5 := HX6.out.cell 5 (by simp)
  have m5 := HX6.out.free 5
  have e6 := HX6.out.cell 6 (by simp)
  have m6 := HX6.out.free 6
  have e7 := HX6.out.cell 7 (by simp)
  have m7 := HX6.out.free 7
  have e8 := HX6.out.cell 8 (by simp)
  have m8 := HX6.out.free 8
  simp only [List.getD_cons_zero, List.getD_cons_succ, List.getD_nil] at e0 e1 e2 e3 e4 e5 e6 e7 e8
  clear hb
  go_wp2_with fail
  generalize (((((((((w6.setCell ⟨b2, 0, none⟩ (.int .i64 f2)).setCell ⟨b2, 1, none⟩ (.int .i64 t2)).setCell ⟨b2, 2, none⟩ (.int .i64 a2)).setCell ⟨b2, 3, none⟩ (.int .i64 s2)).setCell ⟨b2, 4, none⟩ (.int .i64 k2)).setCell ⟨b2, 5, none⟩ (.int .i64 o2)).setCell ⟨b2, 6, none⟩ (.int .i64 d2)).setCell ⟨b2, 7, none⟩ (.int .i64 u2)).setCell ⟨b2, 8, none⟩ (.int .i64 v2)) = w7 at HB7 HX7 HY7 HR7 ⊢
  clear e0 e1 e2 e3 e4 e5 e6 e7 e8 m0 m1 m2 m3 m4 m5 m6 m7 m8 HX6 HY6
  refine (HE.out _ HR7.out).mono ?_
  rintro e w8 ⟨rfl, hb⟩
  have HB8 := Lib.hid (HB7.out.trans (hb.mono HB7.out.size))
  have HX8 := Lib.hid (HX7.out.below hb)
  have HY8 := Lib.hid (HY7.out.below hb)
  have hb24 : b2 ≠ b4 := by omega
  have hb42 : b4 ≠ b2 := by omega
  have e0 := HX8.out.cell 0 (by simp)
  have m0 := HX8.out.free 0
  have e1 := HX8.out.cell 1 (by simp)
  have m1 := HX8.out.free 1
  have e2 := HX8.out.cell 2 (by simp)
  have m2 := HX8.out.free 2
  have e3 := HX8.out.cell 3 (by simp)
  have m3 := HX8.out.free 3
  have e4 := HX8.out.cell 4 (by simp)
  have m4 := HX8.out.free 4
  have e5 := HX8.out.cell 5 (by simp)
  have m5 := HX8.out.free 5
  have e6 := HX8.out.cell 6 (by simp)
  have m6 := HX8.out.free 6
  have e7 := HX8.out.cell 7 (by simp)
  have m7 := HX8.out.free 7
  have e8 := HX8.out.cell 8 (by simp)
  have m8 := HX8.out.free 8
  simp only [List.getD_cons_zero, List.getD_cons_succ, List.getD_nil] at e0 e1 e2 e3 e4 e5 e6 e7 e8
  have g0 := HY8.out.cell 0 (by simp)
  have j0 := HY8.out.free 0
  have g1 := HY8.out.cell 1 (by simp)
  have j1 := HY8.out.free 1
  have g2 := HY8.out.cell 2 (by simp)
  have j2 := HY8.out.free 2
  have g3 := HY8.out.cell 3 (by simp)
  have j3 := HY8.out.free 3
  have g4 := HY8.out.cell 4 (by simp)
  have j4 := HY8.out.free 4
  have g5 := HY8.out.cell 5 (by simp)
  have j5 := HY8.out.free 5
  have g6 := HY8.out.cell 6 (by simp)
  have j6 := HY8.out.free 6
  have g7 := HY8.out.cell 7 (by simp)
  have j7 := HY8.out.free 7
  have g8 := HY8.out.cell 8 (by simp)
  have j8 := HY8.out.free 8
  simp only [List.getD_cons_zero, List.getD_cons_succ, List.getD_nil] at g0 g1 g2 g3 g4 g5 g6 g7 g8
  clear hb
  go_wp2
  go_ret
  exact ⟨rfl, below9c (by omega) HB8.out _ _ _ _ _ _ _ _ _⟩
end Go.Proofs.YtobkcedmjeidfaaDoor.graml3
