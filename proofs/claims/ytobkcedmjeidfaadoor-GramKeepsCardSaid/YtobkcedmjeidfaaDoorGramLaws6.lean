/- The walk of the law GramKeeps. -/
import Derived.Test.YtobkcedmjeidfaaDoorGDecode
import Derived.Test.YtobkcedmjeidfaaDoorGramLaws1
import Derived.Test.YtobkcedmjeidfaaDoorKeepP
set_option linter.unusedVariables false
set_option linter.unusedSimpArgs false
namespace Go.Proofs.YtobkcedmjeidfaaDoor.graml6
open Go.RowKit Go.Proofs.YtobkcedmjeidfaaDoorW.PrintWords Go.Proofs.YtobkcedmjeidfaaDoor.base Go.Proofs.YtobkcedmjeidfaaDoor.mem Go.Proofs.YtobkcedmjeidfaaDoor.packp Go.Proofs.YtobkcedmjeidfaaDoor.packw Go.Proofs.YtobkcedmjeidfaaDoor.samew Go.Proofs.YtobkcedmjeidfaaDoor.wirep Go.Proofs.YtobkcedmjeidfaaDoor.wirew Go.Proofs.YtobkcedmjeidfaaDoor.takew Go.Proofs.YtobkcedmjeidfaaDoor.gramp Go.Proofs.YtobkcedmjeidfaaDoor.gramw Go.Proofs.YtobkcedmjeidfaaDoor.crcp Go.Proofs.YtobkcedmjeidfaaDoor.crcw Go.Proofs.YtobkcedmjeidfaaDoor.graml Go.Proofs.YtobkcedmjeidfaaDoor.gtake Go.Proofs.YtobkcedmjeidfaaDoor.keep

set_option maxHeartbeats 4000000 in
set_option maxRecDepth 100000 in
theorem keepsLaw (A : Option Addr) (n c : Nat) (xs : List Int) (g : G) (w : World) (hr : RdB w A n xs) (hc : n ≤ c) (hn : n * 1 ≤ 140737488351232) (hg : g.I) (ht : Table w) :
    Calls Tryd.prog 8 #[.slice A n c, g.agg] w fun e w' => e = .returned (.bool true) ∧ Below w.heap.size w w' := by
  have hl : n + 81 ≤ 140737488355328 := by omega
  have HPut := Lib.hid (fun W A1 c1 (h : RdB W A1 n xs) => gput_any A1 n c1 xs g W h hg hl)
  have HEn := Lib.hid (fun W (h : Table W) => gencode_any g W hg h)
  have hE := G.enc_len hg
  have hFl : (if g.valid then full g.enc else []).length ≤ 85 := by
    split
    · rw [full_len]; omega
    · simp
  have HR := Lib.hid hr
  have HT := Lib.hid ht
  have hn' : n ≤ 140737488351232 := by omega
  clear hr hn ht hg
  have HEn : Hid (∀ W, Table W → Calls Tryd.prog 10 #[g.agg] W fun e w' => ∃ A n c, e = .returned (.tuple #[.slice A n c, .int .i64 (if g.valid then 0 else 1)]) ∧ OwB w' W.heap.size A n c (if g.valid then full g.enc else []) ∧ Below W.heap.size W w') := HEn
  generalize (if g.valid then full g.enc else []) = F at HEn hFl
  generalize (if g.valid then (0 : Int) else 1) = ee at HEn
  generalize g.enc = E at HPut hE
  obtain ⟨f, t, a, s, ⟨k, o, d, u, v⟩⟩ := g
  have HPut : Hid (∀ W A1 c1, RdB W A1 n xs → Calls Tryd.prog 15 #[.slice A1 n c1, .agg #[.int .i64 f, .int .i64 t, .int .i64 a, .int .i64 s, .int .i64 k, .int .i64 o, .int .i64 d, .int .i64 u, .int .i64 v]] W (RetB W (xs ++ E))) := HPut
  have HEn : Hid (∀ W, Table W → Calls Tryd.prog 10 #[.agg #[.int .i64 f, .int .i64 t, .int .i64 a, .int .i64 s, .int .i64 k, .int .i64 o, .int .i64 d, .int .i64 u, .int .i64 v]] W fun e w' => ∃ A n c, e = .returned (.tuple #[.slice A n c, .int .i64 ee]) ∧ OwB w' W.heap.size A n c F ∧ Below W.heap.size W w') := HEn
  show Calls Tryd.prog 8 #[.slice A n c, .agg #[.int .i64 f, .int .i64 t, .int .i64 a, .int .i64 s, .int .i64 k, .int .i64 o, .int .i64 d, .int .i64 u, .int .i64 v]] w _
  have HX0 : Hid (RowH (w.alloc (.cells #[.int .i64 f, .int .i64 t, .int .i64 a, .int .i64 s, .int .i64 k, .int .i64 o, .int .i64 d, .int .i64 u, .int .i64 v] 26)) w.heap.size [f, t, a, s, k, o, d, u, v]) := Lib.hid (RowH.new w w.heap.size rfl [f, t, a, s, k, o, d, u, v])
  have HB0 := Lib.hid (below_alloc (Below.refl w.heap.size w) (.cells #[.int .i64 f, .int .i64 t, .int .i64 a, .int .i64 s, .int .i64 k, .int .i64 o, .int .i64 d, .int .i64 u, .int .i64 v] 26))
  have hs0 := HB0.out.size
  have HT0 := Lib.hid (HT.out.below HB0.out)
  have L7 : Hid (By [71, 72, 73, 74, 75, 76, 77, 78, 79]) := Lib.hid (By_of _ (by decide))
  go_enter Tryd.func8, Tryd.ntmps8
  go_wp2_with fail
  refine (wakes_any _ HT0.out).mono ?_
  rintro e w1 ⟨rfl, hb⟩
  have HB1 := Lib.hid (HB0.out.trans (hb.mono hs0))
  have hs1 := HB1.out.size
  have HX1 := Lib.hid (HX0.out.below hb)
  have HR1 := Lib.hid (HR.out.below HB1.out)
  have R1 := Lib.hid (Below.refl w1.heap.size w1)
  clear hb
  go_wp2_with (first | (at_builtin; refine app (w0 := w1) (base := w1.heap.size) rfl (.tmp 22) (.tmp 23) rfl rfl rfl (OwB.lit0 w1 _ (Nat.le_refl _)) (HR1.out.below (R1.out.alloc (Nat.le_refl _) _)) (R1.out.alloc (Nat.le_refl _) _) ?s2 ?l2 ?_; (case s2 => simp); (case l2 => omega); intro A2 n2 c2 w2 ho hb; have hL1 := ho.len; rw [List.nil_append] at ho; rw [List.nil_append, HR.out.len] at hL1; subst hL1; have HO2 := Lib.hid ho; have HB2 := Lib.hid hb; have hs2 := hb.size; clear ho hb) | (at_builtin; refine app (w0 := w1) (base := w1.heap.size) rfl (.tmp 24) (.tmp 25) rfl rfl rfl (HO2.out.alloc _) (litB w2 (0, 0) [71, 72, 73, 74, 75, 76, 77, 78, 79] (Nat.le_of_ble_eq_true rfl) L7.out) (HB2.out.alloc hs2 _) ?s3 ?l3 ?_; (case s3 => simp; omega); (case l3 => simp; omega); intro A3 n3 c3 w3 ho hb; have hL3 := ho.len; rw [List.length_append, HR.out.len] at hL3; have hL3a : n3 ≤ n + 9 := Nat.le_of_eq hL3.symm; have hL3b : n + 9 ≤ n3 := Nat.le_of_eq hL3; clear hL3; have HO3 := Lib.hid ho; have HB3 := Lib.hid hb; have hs3 := hb.size; have HX3 := Lib.hid (HX1.out.below hb); have e3_0 := HX3.out.cell 0 (by simp); have e3_1 := HX3.out.cell 1 (by simp); have e3_2 := HX3.out.cell 2 (by simp); have e3_3 := HX3.out.cell 3 (by simp); have e3_4 := HX3.out.cell 4 (by simp); have e3_5 := HX3.out.cell 5 (by simp); have e3_6 := HX3.out.cell 6 (by simp); have e3_7 := HX3.out.cell 7 (by simp); have e3_8 := HX3.out.cell 8 (by simp); simp only [List.getD_cons_zero, List.getD_cons_succ, List.getD_nil] at e3_0 e3_1 e3_2 e3_3 e3_4 e3_5 e3_6 e3_7 e3_8; clear ho hb))
  have hc3 := HO3.out.cap
  have hnc3 : n ≤ c3 := by omega
  have hnc3i : (n : Int) ≤ (c3 : Int) := by omega
  have hn3 : n ≤ n3 := by omega
  obtain ⟨g3, rfl, hg3, hg3l⟩ := HO3.out.form (by omega)
  have RM3 : Hid (RdB w3.drew (some ⟨g3, 0, none⟩) n xs) := Lib.hid (by have := ((HO3.out.rd.take n hn3).below (Below.refl _ _).drew); rwa [List.take_left' HR.out.len] at this)
  have HBD := Lib.hid HB3.out.drew
  have HXD := Lib.hid (HX3.out.below (Below.refl _ _).drew)
  have HOD := Lib.hid (HO3.out.below (Below.refl _ _).drew)
  have hsD := HBD.out.size
  go_region_held3 (fun W => W.cell? ⟨w.heap.size, 0, none⟩ = some (.int .i64 f) ∧ W.cell? ⟨w.heap.size, 1, none⟩ = some (.int .i64 t) ∧ W.cell? ⟨w.heap.size, 2, none⟩ = some (.int .i64 a) ∧ W.cell? ⟨w.heap.size, 3, none⟩ = some (.int .i64 s) ∧ W.cell? ⟨w.heap.size, 4, none⟩ = some (.int .i64 k) ∧ W.cell? ⟨w.heap.size, 5, none⟩ = some (.int .i64 o) ∧ W.cell? ⟨w.heap.size, 6, none⟩ = some (.int .i64 d) ∧ W.cell? ⟨w.heap.size, 7, none⟩ = some (.int .i64 u) ∧ W.cell? ⟨w.heap.size, 8, none⟩ = some (.int .i64 v)) (first | assumption | exact ⟨by assumption, by assumption, by assumption, by assumption, by assumption, by assumption, by assumption, by assumption, by assumption⟩) (first | (go_at_call 15; refine (HPut.out _ _ _ RM3.out).mono ?_; rintro e w4 ⟨A4, n4, c4, rfl, ho, hb⟩; have HB4 := Lib.hid (HBD.out.trans (hb.mono hsD)); have HX4 := Lib.hid (HXD.out.below hb); have HM4 := Lib.hid (HOD.out.below hb); have HO4 := Lib.hid ho; have hs4 : w3.heap.size ≤ w4.heap.size := hb.size; have e4_0 := HX4.out.cell 0 (by simp); have e4_1 := HX4.out.cell 1 (by simp); have e4_2 := HX4.out.cell 2 (by simp); have e4_3 := HX4.out.cell 3 (by simp); have e4_4 := HX4.out.cell 4 (by simp); have e4_5 := HX4.out.cell 5 (by simp); have e4_6 := HX4.out.cell 6 (by simp); have e4_7 := HX4.out.cell 7 (by simp); have e4_8 := HX4.out.cell 8 (by simp); simp only [List.getD_cons_zero, List.getD_cons_succ, List.getD_nil] at e4_0 e4_1 e4_2 e4_3 e4_4 e4_5 e4_6 e4_7 e4_8; clear ho hb))
  have hn4 := HO4.out.len
  rw [List.length_append, HR.out.len] at hn4
  have hn4a : n4 ≤ n + 81 := by omega
  clear hn4
  have RM4 : Hid (RdB w4.drew (some ⟨g3, 0, none⟩) n xs) := Lib.hid (by have := ((HM4.out.rd.take n hn3).below (Below.refl _ _).drew); rwa [List.take_left' HR.out.len] at this)
  have HBE := Lib.hid HB4.out.drew
  have HXE := Lib.hid (HX4.out.below (Below.refl _ _).drew)
  have HME := Lib.hid (HM4.out.below (Below.refl _ _).drew)
  have HOE := Lib.hid (HO4.out.below (Below.refl _ _).drew)
  have hsE := HBE.out.size
  clear e3_0 e3_1 e3_2 e3_3 e3_4 e3_5 e3_6 e3_7 e3_8
  go_wp2_with fail
  go_region_held3 (fun W => W.cell? ⟨w.heap.size, 0, none⟩ = some (.int .i64 f) ∧ W.cell? ⟨w.heap.size, 1, none⟩ = some (.int .i64 t) ∧ W.cell? ⟨w.heap.size, 2, none⟩ = some (.int .i64 a) ∧ W.cell? ⟨w.heap.size, 3, none⟩ = some (.int .i64 s) ∧ W.cell? ⟨w.heap.size, 4, none⟩ = some (.int .i64 k) ∧ W.cell? ⟨w.heap.size, 5, none⟩ = some (.int .i64 o) ∧ W.cell? ⟨w.heap.size, 6, none⟩ = some (.int .i64 d) ∧ W.cell? ⟨w.heap.size, 7, none⟩ = some (.int .i64 u) ∧ W.cell? ⟨w.heap.size, 8, none⟩ = some (.int .i64 v)) (first | assumption | exact ⟨by assumption, by assumption, by assumption, by assumption, by assumption, by assumption, by assumption, by assumption, by assumption⟩) (first | (go_at_call 15; refine (HPut.out _ _ _ RM4.out).mono ?_; rintro e w5 ⟨A5, n5, c5, rfl, ho, hb⟩; have HB5 := Lib.hid (HBE.out.trans (hb.mono hsE)); have HM5 := Lib.hid (HME.out.below hb); have HO5 := Lib.hid (HOE.out.below hb); have HU5 := Lib.hid ho; have hs5 : w4.heap.size ≤ w5.heap.size := hb.size; have HX5 := Lib.hid (HXE.out.below hb); have e5_0 := HX5.out.cell 0 (by simp); have e5_1 := HX5.out.cell 1 (by simp); have e5_2 := HX5.out.cell 2 (by simp); have e5_3 := HX5.out.cell 3 (by simp); have e5_4 := HX5.out.cell 4 (by simp); have e5_5 := HX5.out.cell 5 (by simp); have e5_6 := HX5.out.cell 6 (by simp); have e5_7 := HX5.out.cell 7 (by simp); have e5_8 := HX5.out.cell 8 (by simp); simp only [List.getD_cons_zero, List.getD_cons_succ, List.getD_nil] at e5_0 e5_1 e5_2 e5_3 e5_4 e5_5 e5_6 e5_7 e5_8; clear ho hb))
  have hn5 := HU5.out.len
  rw [List.length_append, HR.out.len] at hn5
  have hn5a : n5 ≤ n + 81 := by omega
  clear hn5
  clear e4_0 e4_1 e4_2 e4_3 e4_4 e4_5 e4_6 e4_7 e4_8
  have HBW5 := Lib.hid (HB1.out.trans (HB5.out.mono hs1))
  have HT5 := Lib.hid (HT.out.below HBW5.out)
  clear HX0 HX1 HX3 HXD HX4 HXE HBE HB4 HBD HB3 HB2 HB0 HME HOE HO3 HO2 HR1 R1 RM3 RM4 HPut HM4 HOD HB5 HT0
  go_wp2_with fail
  refine (HEn.out _ HT5.out).mono ?_
  rintro e w6 ⟨A6, n6, c6, rfl, ho, hb⟩
  have HB6 := Lib.hid (HBW5.out.trans (hb.mono HBW5.out.size))
  have hs6 := hb.size
  have HX6 := Lib.hid (HX5.out.below hb)
  have HM6 := Lib.hid (HM5.out.below hb)
  have HO6 := Lib.hid (HO5.out.below hb)
  have HU6 := Lib.hid (HU5.out.below hb)
  have HV6 := Lib.hid ho
  have HT6 := Lib.hid (HT.out.below HB6.out)
  have hn6 := ho.len
  have hn6a : n6 ≤ 85 := by omega
  clear ho hb hn6 e5_0 e5_1 e5_2 e5_3 e5_4 e5_5 e5_6 e5_7 e5_8 HX5 HM5 HO5
  have HU5b := Lib.hid (OwB.blk HU5.out)
  have e6_0 := HX6.out.cell 0 (by simp)
  have e6_1 := HX6.out.cell 1 (by simp)
  have e6_2 := HX6.out.cell 2 (by simp)
  have e6_3 := HX6.out.cell 3 (by simp)
  have e6_4 := HX6.out.cell 4 (by simp)
  have e6_5 := HX6.out.cell 5 (by simp)
  have e6_6 := HX6.out.cell 6 (by simp)
  have e6_7 := HX6.out.cell 7 (by simp)
  have e6_8 := HX6.out.cell 8 (by simp)
  simp only [List.getD_cons_zero, List.getD_cons_succ, List.getD_nil] at e6_0 e6_1 e6_2 e6_3 e6_4 e6_5 e6_6 e6_7 e6_8
  go_wp2_with fail
  refine (HEn.out _ HT6.out).mono ?_
  rintro e w7 ⟨A7, n7, c7, rfl, ho, hb⟩
  have HB7 := Lib.hid (HB6.out.trans (hb.mono HB6.out.size))
  have hs7 := hb.size
  have HM7 := Lib.hid (HM6.out.below hb)
  have HO7 := Lib.hid (HO6.out.below hb)
  have HU7 := Lib.hid (HU6.out.below hb)
  have HV7 := Lib.hid (HV6.out.below hb)
  have HW7 := Lib.hid ho
  have hn7 := ho.len
  have hn7a : n7 ≤ 85 := by omega
  have RW7 := Lib.hid (Below.refl w7.heap.size w7)
  have hsw7 := HB7.out.size
  clear ho hb hn7 e6_0 e6_1 e6_2 e6_3 e6_4 e6_5 e6_6 e6_7 e6_8 HX6 HM6 HO6 HU6 HT6 HT5
  go_wp2_with (first | (at_builtin; refine app (w0 := w7) (base := w7.heap.size) rfl (.tmp 49) (.tmp 50) rfl rfl rfl (OwB.lit0 w7 _ (Nat.le_refl _)) (HU7.out.rd.below (RW7.out.alloc (Nat.le_refl _) _)) (RW7.out.alloc (Nat.le_refl _) _) ?s8 ?l8 ?_; (case s8 => simp); (case l8 => omega); intro A8 n8 c8 w8 ho hb; rw [List.nil_append] at ho; have hL8 := ho.len; rw [HU7.out.len] at hL8; subst hL8; have HY8 := Lib.hid ho; have HB8 := Lib.hid (HB7.out.trans (hb.mono hsw7)); have hs8 := hb.size; have HM8 := Lib.hid (HM7.out.below hb); have HO8 := Lib.hid (HO7.out.below hb); have HU8 := Lib.hid (HU7.out.below hb); have HV8 := Lib.hid (HV7.out.below hb); have HW8 := Lib.hid (HW7.out.below hb); have hsw8 := HB8.out.size; have RW8 := Lib.hid (Below.refl w8.heap.size w8); clear ho hb) | (at_builtin; refine app (w0 := w8) (base := w8.heap.size) rfl (.tmp 52) (.tmp 53) rfl rfl rfl (OwB.lit0 w8 _ (Nat.le_refl _)) (HW8.out.rd.below (RW8.out.alloc (Nat.le_refl _) _)) (RW8.out.alloc (Nat.le_refl _) _) ?s9 ?l9 ?_; (case s9 => simp); (case l9 => omega); intro A9 n9 c9 w9 ho hb; rw [List.nil_append] at ho; have hL9 := ho.len; rw [HW8.out.len] at hL9; subst hL9; have HZ9 := Lib.hid ho; have HB9 := Lib.hid (HB8.out.trans (hb.mono hsw8)); have hs9 := hb.size; have HM9 := Lib.hid (HM8.out.below hb); have HO9 := Lib.hid (HO8.out.below hb); have HU9 := Lib.hid (HU8.out.below hb); have HV9 := Lib.hid (HV8.out.below hb); have HW9 := Lib.hid (HW8.out.below hb); have HY9 := Lib.hid (HY8.out.below hb); have HT9 := Lib.hid (HT.out.below HB9.out); have HD9 := Lib.hid (gdecode_any _ _ _ _ _ HM9.out.rd hc3 HT9.out); clear ho hb))
  refine HD9.out.mono ?_
  rintro e w10 ⟨rfl, hb⟩
  have HB10 := Lib.hid (HB9.out.trans (hb.mono HB9.out.size))
  have hs10 := hb.size
  have HM10 := Lib.hid (HM9.out.below hb)
  have HO10 := Lib.hid (HO9.out.below hb)
  have HU10 := Lib.hid (HU9.out.below hb)
  have HV10 := Lib.hid (HV9.out.below hb)
  have HW10 := Lib.hid (HW9.out.below hb)
  have HY10 := Lib.hid (HY9.out.below hb)
  have HZ10 := Lib.hid (HZ9.out.below hb)
  have HR10 := Lib.hid (HR.out.below HB10.out)
  have RM10 : Hid (RdB w10 (some ⟨g3, 0, none⟩) n xs) := Lib.hid (by have := HM10.out.rd.take n hn3; rwa [List.take_left' HR.out.len] at this)
  clear hb HD9
  generalize decG (xs ++ [71, 72, 73, 74, 75, 76, 77, 78, 79]) = DD
  go_wp2_with fail
  refine (same_any _ _ _ _ _ _ _ _ _ RM10.out HR10.out).mono ?_
  rintro e wx ⟨rfl, ⟨q, rfl⟩⟩
  rw [eqL_self]
  have HM := Lib.hid (HM10.out.drawn q)
  have HO := Lib.hid (HO10.out.drawn q)
  have HV := Lib.hid (HV10.out.drawn q)
  have RU := Lib.hid (HU10.out.drawn q).rd
  have RW := Lib.hid (HW10.out.drawn q).rd
  have RY := Lib.hid (HY10.out.drawn q).rd
  have RZ := Lib.hid (HZ10.out.drawn q).rd
  have HB := Lib.hid (pw_below_drewN HB10.out q)
  have hsz : w10.heap.size = (w10.drewN q).heap.size := by simp
  -- the set of blocks that stay
  have PU : Hid (∀ j, w4.heap.size ≤ j → j < w5.heap.size → (fun i => (w4.heap.size ≤ i ∧ i < w5.heap.size) ∨ (w6.heap.size ≤ i ∧ i < w9.heap.size)) j) := Lib.hid fun j a b => .inl ⟨a, b⟩
  have LU : Hid (LiesP (fun i => (w4.heap.size ≤ i ∧ i < w5.heap.size) ∨ (w6.heap.size ≤ i ∧ i < w9.heap.size)) (w10.drewN q).heap.size A5 n5) := Lib.hid (OwB.liesP HU5.out PU.out (by omega))
  have LW : Hid (LiesP (fun i => (w4.heap.size ≤ i ∧ i < w5.heap.size) ∨ (w6.heap.size ≤ i ∧ i < w9.heap.size)) (w10.drewN q).heap.size A7 n7) := Lib.hid (OwB.liesP HW7.out (fun j a b => .inr ⟨a, by omega⟩) (by omega))
  have LY : Hid (LiesP (fun i => (w4.heap.size ≤ i ∧ i < w5.heap.size) ∨ (w6.heap.size ≤ i ∧ i < w9.heap.size)) (w10.drewN q).heap.size A8 n5) := Lib.hid (OwB.liesP HY8.out (fun j a b => .inr ⟨by omega, by omega⟩) (by omega))
  have LZ : Hid (LiesP (fun i => (w4.heap.size ≤ i ∧ i < w5.heap.size) ∨ (w6.heap.size ≤ i ∧ i < w9.heap.size)) (w10.drewN q).heap.size A9 n7) := Lib.hid (OwB.liesP HZ9.out (fun j a b => .inr ⟨by omega, by omega⟩) (by omega))
  have blkM : ¬ ((w4.heap.size ≤ g3 ∧ g3 < w5.heap.size) ∨ (w6.heap.size ≤ g3 ∧ g3 < w9.heap.size)) := by omega
  have hO4 := OwB.blk HO4.out
  have hV6 := OwB.blk HV6.out
  have blkO : Hid (∀ j, (Value.slice A4 n4 c4).ownBlock = some j → w3.heap.size ≤ j ∧ j < w4.heap.size) := Lib.hid fun j hj => hO4 j hj
  have blkV : Hid (∀ j, (Value.slice A6 n6 c6).ownBlock = some j → w5.heap.size ≤ j ∧ j < w6.heap.size) := Lib.hid fun j hj => hV6 j hj
  have hg3w : w.heap.size ≤ g3 := by omega
  have hs3w : w.heap.size ≤ w3.heap.size := by omega
  have c71 := HM.out.at_ n (by omega)
  have c79 := HM.out.at_ (n + 8) (by omega)
  have h71 : (xs ++ [71, 72, 73, 74, 75, 76, 77, 78, 79]).getD n 0 = 71 := by simp [List.getD_eq_getElem?_getD, ← HR.out.len]
  have h79 : (xs ++ [71, 72, 73, 74, 75, 76, 77, 78, 79]).getD (n + 8) 0 = 79 := by simp [List.getD_eq_getElem?_getD, ← HR.out.len]
  rw [h71] at c71
  rw [h79] at c79
  obtain ⟨c71, _⟩ := c71
  obtain ⟨c79, _⟩ := c79
  have L4 : Hid (By [4]) := Lib.hid (By_of _ (by decide))
  have L5 : Hid (By [5]) := Lib.hid (By_of _ (by decide))
  clear h71 h79 hO4 hV6 HU5b HM7 HM8 HM9 HM10 HO4 HO7 HO8 HO9 HO10 HU5 HU7 HU8 HU9 HU10 HV6 HV7 HV8 HV9 HV10 HW7 HW8 HW9 HW10 HY8 HY9 HY10 HZ9 HZ10 HT9 HR10 RM10 RW7 RW8 HB6 HB7 HB8 HB9 HB10 HBW5 HEn PU
  generalize w10.drewN q = wz at HM HO HV RU RW RY RZ HB hsz LU LW LY LZ c71 c79 ⊢
  go_wp2
  -- mine
  go_loopw [14, 83] (fun _ li wr => ∃ (p : Nat) (zs : List Int), p ≤ n3 ∧ li = .int .i64 p ∧ Aside0 (OwB wr w1.heap.size (some ⟨g3, 0, none⟩) n3 c3 zs) ∧ Aside0 (OwB wr w3.heap.size A4 n4 c4 (xs ++ E)) ∧ Aside0 (OwB wr w5.heap.size A6 n6 c6 F) ∧ Aside0 (Kp (fun i => (w4.heap.size ≤ i ∧ i < w5.heap.size) ∨ (w6.heap.size ≤ i ∧ i < w9.heap.size)) wz wr) ∧ Aside0 (Below w.heap.size w wr)) (fun _ li _ => n3 - (intOf li).toNat)
  case atStart => exact ⟨0, _, by omega, rfl, ⟨HM.out⟩, ⟨HO.out⟩, ⟨HV.out⟩, ⟨Kp.refl _⟩, ⟨HB.out⟩⟩
  case round =>
    obtain ⟨p, zs, hp, rfl, HMr, HOr, HVr, HKr, HBr⟩ := hrel
    by_cases hlt : p < n3
    · obtain ⟨hcell, hfr⟩ := HMr.out.at_ p hlt
      generalize zs.getD p 0 = z at hcell
      have st := Aside0.mk (HMr.out.store p 1 ⟨by decide, by decide⟩)
      have HOs := Aside0.mk (OwB.past HOr.out hg3l p (.int .u8 1))
      have HVs := Aside0.mk (OwB.past HVr.out (g := g3) (by omega) p (.int .u8 1))
      have HKs := Aside0.mk (HKr.out.set (g := g3) blkM p (.int .u8 1))
      go_wp2
      go_roundw
      case rel => exact ⟨p + 1, _, by omega, by go_num, st, HOs, HVs, HKs, ⟨HBr.out.setCell (p := ⟨g3, p, none⟩) hg3w _⟩⟩
      case measure => simp [intOf]; omega
    · go_wp2
      clear hlt c71 c79
      -- one
      go_loopw [15, 92] (fun _ li wr2 => ∃ (p : Nat) (zs : List Int), p ≤ n4 ∧ li = .int .i64 p ∧ Aside0 (OwB wr2 w3.heap.size A4 n4 c4 zs) ∧ Aside0 (OwB wr2 w5.heap.size A6 n6 c6 F) ∧ Aside0 (Kp (fun i => (w4.heap.size ≤ i ∧ i < w5.heap.size) ∨ (w6.heap.size ≤ i ∧ i < w9.heap.size)) wz wr2) ∧ Aside0 (Below w.heap.size w wr2)) (fun _ li _ => n4 - (intOf li).toNat)
      case atStart => exact ⟨0, _, by omega, rfl, ⟨HOr.out⟩, ⟨HVr.out⟩, ⟨HKr.out⟩, ⟨HBr.out⟩⟩
      case round =>
        obtain ⟨p2, zs2, hp2, rfl, HO2, HV2, HK2, HB2⟩ := hrel
        by_cases hlt2 : p2 < n4
        · obtain ⟨g4, rfl, hg4, hg4l⟩ := HO2.out.form (by omega)
          have hbk := blkO.out g4 rfl
          have hg4w : w.heap.size ≤ g4 := by omega
          have hg4s : g4 < w5.heap.size := by omega
          have hg4n : ¬ (fun i => (w4.heap.size ≤ i ∧ i < w5.heap.size) ∨ (w6.heap.size ≤ i ∧ i < w9.heap.size)) g4 := by
            show ¬ ((w4.heap.size ≤ g4 ∧ g4 < w5.heap.size) ∨ (w6.heap.size ≤ g4 ∧ g4 < w9.heap.size))
            omega
          clear hbk
          obtain ⟨hcell, hfr⟩ := HO2.out.at_ p2 hlt2
          generalize zs2.getD p2 0 = z at hcell
          have st := Aside0.mk (HO2.out.store p2 2 ⟨by decide, by decide⟩)
          have HVs := Aside0.mk (OwB.past HV2.out (g := g4) hg4s p2 (.int .u8 2))
          have HKs := Aside0.mk (HK2.out.set (g := g4) hg4n p2 (.int .u8 2))
          have HBs := Aside0.mk (HB2.out.setCell (p := ⟨g4, p2, none⟩) hg4w (.int .u8 2))
          clear hg4n
          go_wp2
          go_roundw
          case rel => exact ⟨p2 + 1, _, by omega, by go_num, st, HVs, HKs, HBs⟩
          case measure => simp [intOf]; omega
        · go_wp2
          clear hlt2
          -- three
          go_loopw [16, 101] (fun _ li wr3 => ∃ (p : Nat) (zs zs2 : List Int), p ≤ n6 ∧ li = .int .i64 p ∧ Aside0 (OwB wr3 w3.heap.size A4 n4 c4 zs2) ∧ Aside0 (OwB wr3 w5.heap.size A6 n6 c6 zs) ∧ Aside0 (Kp (fun i => (w4.heap.size ≤ i ∧ i < w5.heap.size) ∨ (w6.heap.size ≤ i ∧ i < w9.heap.size)) wz wr3) ∧ Aside0 (Below w.heap.size w wr3)) (fun _ li _ => n6 - (intOf li).toNat)
          case atStart => exact ⟨0, _, _, by omega, rfl, ⟨HO2.out⟩, ⟨HV2.out⟩, ⟨HK2.out⟩, ⟨HB2.out⟩⟩
          case round =>
            obtain ⟨p3, zs3, zs4, hp3, rfl, HO3, HV3, HK3, HB3⟩ := hrel
            by_cases hlt3 : p3 < n6
            · obtain ⟨g6, rfl, hg6, hg6l⟩ := HV3.out.form (by omega)
              have hbk := blkV.out g6 rfl
              have hg6w : w.heap.size ≤ g6 := by omega
              have hg6n : ¬ (fun i => (w4.heap.size ≤ i ∧ i < w5.heap.size) ∨ (w6.heap.size ≤ i ∧ i < w9.heap.size)) g6 := by
                show ¬ ((w4.heap.size ≤ g6 ∧ g6 < w5.heap.size) ∨ (w6.heap.size ≤ g6 ∧ g6 < w9.heap.size))
                omega
              have hg6s : w4.heap.size ≤ g6 := by omega
              clear hbk
              obtain ⟨hcell, hfr⟩ := HV3.out.at_ p3 hlt3
              generalize zs3.getD p3 0 = z at hcell
              have st := Aside0.mk (HV3.out.store p3 3 ⟨by decide, by decide⟩)
              have HOs := Aside0.mk (OwB.set_other HO3.out (g := g6) (fun j hj => by have := blkO.out j hj; omega) p3 (.int .u8 3))
              have HKs := Aside0.mk (HK3.out.set (g := g6) hg6n p3 (.int .u8 3))
              have HBs := Aside0.mk (HB3.out.setCell (p := ⟨g6, p3, none⟩) hg6w (.int .u8 3))
              clear hg6n
              go_wp2
              go_roundw
              case rel => exact ⟨p3 + 1, _, _, by omega, by go_num, HOs, st, HKs, HBs⟩
              case measure => simp [intOf]; omega
            · have hkO : Hid (∀ j, (Value.slice A4 n4 c4).ownBlock = some j → ¬ ((fun i => (w4.heap.size ≤ i ∧ i < w5.heap.size) ∨ (w6.heap.size ≤ i ∧ i < w9.heap.size)) j ∧ j < wz.heap.size)) := Lib.hid fun j hj h => by
                have h1 := blkO.out j hj
                rcases h.1 with h2 | h2 <;> omega
              have hkV : Hid (∀ j, (Value.slice A6 n6 c6).ownBlock = some j → ¬ ((fun i => (w4.heap.size ≤ i ∧ i < w5.heap.size) ∨ (w6.heap.size ≤ i ∧ i < w9.heap.size)) j ∧ j < wz.heap.size)) := Lib.hid fun j hj h => by
                have h1 := blkV.out j hj
                rcases h.1 with h2 | h2 <;> omega
              have hkD : Hid (∀ j, (Value.slice A4 n4 c4).ownBlock = some j → (Value.slice A6 n6 c6).ownBlock ≠ some j) := Lib.hid fun j hj h => by
                have h1 := blkO.out j hj
                have h2 := blkV.out j h
                omega
              have hw3 : w.heap.size ≤ w5.heap.size := by omega
              go_wp2
              clear hlt3
              go_loopw [17, 18, 19] (fun lo mo li wr4 => ∃ (p : Nat) (A11 : Option Addr) (c11 : Nat) (ys : List Int) (A12 : Option Addr) (c12 : Nat) (us : List Int), p ≤ 40 ∧ li = .int .i64 p ∧ lo = .slice A11 (n4 + p) c11 ∧ mo = .slice A12 (n6 + p) c12 ∧ Aside0 (OwB wr4 w.heap.size A11 (n4 + p) c11 ys) ∧ Aside0 (OwB wr4 w.heap.size A12 (n6 + p) c12 us) ∧ Aside0 (Kp (fun i => (w4.heap.size ≤ i ∧ i < w5.heap.size) ∨ (w6.heap.size ≤ i ∧ i < w9.heap.size)) wz wr4) ∧ Aside0 (Below w.heap.size w wr4) ∧ Aside0 (∀ j, (Value.slice A11 (n4 + p) c11).ownBlock = some j → ¬ ((fun i => (w4.heap.size ≤ i ∧ i < w5.heap.size) ∨ (w6.heap.size ≤ i ∧ i < w9.heap.size)) j ∧ j < wz.heap.size)) ∧ Aside0 (∀ j, (Value.slice A12 (n6 + p) c12).ownBlock = some j → ¬ ((fun i => (w4.heap.size ≤ i ∧ i < w5.heap.size) ∨ (w6.heap.size ≤ i ∧ i < w9.heap.size)) j ∧ j < wz.heap.size)) ∧ Aside0 (∀ j, (Value.slice A11 (n4 + p) c11).ownBlock = some j → (Value.slice A12 (n6 + p) c12).ownBlock ≠ some j)) (fun _ _ li _ => 40 - (intOf li).toNat)
              case atStart => exact ⟨0, A4, c4, _, A6, c6, _, by omega, rfl, rfl, rfl, ⟨HO3.out.less hs3w⟩, ⟨HV3.out.less hw3⟩, ⟨HK3.out⟩, ⟨HB3.out⟩, ⟨hkO.out⟩, ⟨hkV.out⟩, ⟨hkD.out⟩⟩
              case round =>
                obtain ⟨p4, A11, c11, ys, A12, c12, us, hp4, rfl, rfl, rfl, HL, HMo, HK4, HB4, hL, hMo, hD⟩ := hrel
                by_cases hlt4 : p4 < 40
                · have hs4r := HB4.out.size
                  go_wp2_with (first | (at_builtin; refine appH (w0 := w) (base := w.heap.size) rfl (.tmp 114) (.tmp 115) rfl rfl rfl (HL.out.alloc _) (litB wr (0, 0) [4] (Nat.le_of_ble_eq_true rfl) L4.out) (HB4.out.alloc hs4r _) ?s11 ?l11 ?_; (case s11 => simp; omega); (case l11 => simp; omega); intro A21 n21 c21 w21 ho hb hg hob; have hn21 : n21 = n4 + (p4 + 1) := (by have h1 := ho.len; rw [List.length_append, HL.out.len] at h1; simp at h1; omega); have hz21 : wz.heap.size ≤ wr.heap.size := HK4.out.1; have HL21 := Lib.hid ho; have HB21 := Lib.hid hb; have hs21 := hb.size; have HK21 := Lib.hid ((HK4.out.alloc _).grown hg hL.out); have HM21 := Lib.hid (OwB.keptN (HMo.out.alloc _) hg (fun j hj e => hD.out j e hj)); have HLk := Lib.hid (fun j hj => (show ¬ ((fun i => (w4.heap.size ≤ i ∧ i < w5.heap.size) ∨ (w6.heap.size ≤ i ∧ i < w9.heap.size)) j ∧ j < wz.heap.size) from (hob j hj).elim (fun h => hL.out j h) (fun h => by have h2 : wr.heap.size ≤ j := Nat.le_trans (by simp) h; intro h3; omega))); have HDk := Lib.hid (fun j (hj : (Value.slice A21 n21 c21).ownBlock = some j) => (show (Value.slice A12 (n6 + p4) c12).ownBlock ≠ some j from (hob j hj).elim (fun h => hD.out j h) (fun h e => by have h2 : wr.heap.size ≤ j := Nat.le_trans (by simp) h; have h3 := (OwB.blk HMo.out j e).2; omega))); clear ho hb hg hob; subst hn21) | (at_builtin; go_must (refine appH (w0 := w) (base := w.heap.size) rfl (.tmp 117) (.tmp 118) rfl rfl rfl (HM21.out.alloc _) (litB w21 (0, 0) [5] (Nat.le_of_ble_eq_true rfl) L5.out) (HB21.out.alloc hs21 _) ?s12 ?l12 ?_; (case s12 => simp; omega); (case l12 => simp; omega); intro A22 n22 c22 w22 ho hb hg hob; have hn22 : n22 = n6 + (p4 + 1) := (by have h1 := ho.len; rw [List.length_append, HM21.out.len] at h1; simp at h1; omega); have hz22 : wz.heap.size ≤ w21.heap.size := HK21.out.1; have HM22 := Aside0.mk ho; have HB22 := Aside0.mk hb; have HK22 := Aside0.mk ((HK21.out.alloc _).grown hg hMo.out); have HL22 := Aside0.mk (OwB.keptN (HL21.out.alloc _) hg (fun j hj e => HDk.out j hj e)); have HMk := Aside0.mk (fun j hj => (show ¬ ((fun i => (w4.heap.size ≤ i ∧ i < w5.heap.size) ∨ (w6.heap.size ≤ i ∧ i < w9.heap.size)) j ∧ j < wz.heap.size) from (hob j hj).elim (fun h => hMo.out j h) (fun h => by have h2 : w21.heap.size ≤ j := Nat.le_trans (by simp) h; intro h3; omega))); have HDD := Aside0.mk (fun j (hj : (Value.slice A21 (n4 + (p4 + 1)) c21).ownBlock = some j) => (show (Value.slice A22 n22 c22).ownBlock ≠ some j from fun e => (hob j e).elim (fun h => HDk.out j hj h) (fun h => by have h2 : w21.heap.size ≤ j := Nat.le_trans (by simp) h; have h3 := (OwB.blk HL21.out j hj).2; omega))); clear ho hb hg hob; subst hn22)))
                  go_roundw
                  case rel => exact ⟨p4 + 1, A21, c21, _, A22, c22, _, by omega, by go_num, rfl, rfl, HL22, HM22, HK22, HB22, ⟨HLk.out⟩, HMk, HDD⟩
                  case measure => simp [intOf]; omega
                · have hp40 : p4 = 40 := by omega
                  subst hp40
                  have RU4 := Lib.hid (RdB.kp RU.out LU.out HK4.out)
                  have RW4 := Lib.hid (RdB.kp RW.out LW.out HK4.out)
                  have RY4 := Lib.hid (RdB.kp RY.out LY.out HK4.out)
                  have RZ4 := Lib.hid (RdB.kp RZ.out LZ.out HK4.out)
                  have HBF := Lib.hid HB4.out
                  clear HL HMo HK4 HB4 hL hMo hD
                  go_wp2_with (first | (go_at_call 14; ((with_reducible refine (same_any _ _ _ _ _ _ _ _ _ RU4.out RY4.out).mono ?_)); rintro e wq ⟨rfl, ⟨qq, rfl⟩⟩; rw [eqL_self]; have RW5 := Lib.hid (RW4.out.drawn qq); have RZ5 := Lib.hid (RZ4.out.drawn qq)) | (go_at_call 14; ((with_reducible refine (same_any _ _ _ _ _ _ _ _ _ RW5.out RZ5.out).mono ?_)); rintro e wq2 ⟨rfl, ⟨qq2, rfl⟩⟩; rw [eqL_self]))
                  go_ret
                  exact ⟨rfl, pw_below_drewN HBF.out _⟩
end Go.Proofs.YtobkcedmjeidfaaDoor.graml6
