/- The law's wakes and the walk of the law GramPuts. -/
import Derived.Test.YtobkcedmjeidfaaDoorGramWalk4
set_option linter.unusedVariables false
set_option linter.unusedSimpArgs false
namespace Go.Proofs.YtobkcedmjeidfaaDoor.graml
open Go.RowKit Go.Proofs.YtobkcedmjeidfaaDoorW.PrintWords Go.Proofs.YtobkcedmjeidfaaDoor.base Go.Proofs.YtobkcedmjeidfaaDoor.mem Go.Proofs.YtobkcedmjeidfaaDoor.packp Go.Proofs.YtobkcedmjeidfaaDoor.packw Go.Proofs.YtobkcedmjeidfaaDoor.samew Go.Proofs.YtobkcedmjeidfaaDoor.wirep Go.Proofs.YtobkcedmjeidfaaDoor.wirew Go.Proofs.YtobkcedmjeidfaaDoor.gramp Go.Proofs.YtobkcedmjeidfaaDoor.gramw Go.Proofs.YtobkcedmjeidfaaDoor.crcp Go.Proofs.YtobkcedmjeidfaaDoor.crcw

theorem wakes_enc : G.enc ⟨0, 1, 2, 0, ⟨0, 0, 0, 0, 0⟩⟩ = [0, 1, 2, 0] := by
  rw [G.enc_bare (G.of_parts (by decide)) rfl]
  have e0 : encI 0 = [0] := enc_small 0 (by decide)
  have e1 : encI 1 = [1] := enc_small 1 (by decide)
  have e2 : encI 2 = [2] := enc_small 2 (by decide)
  simp only [encAll, List.flatMap_cons, List.flatMap_nil, e0, e1, e2]
  rfl
set_option maxHeartbeats 1000000 in
theorem wakes_any (w : World) (ht : Table w) :
    Calls Tryd.prog 9 #[] w fun e w' => e = .returned (.bool true) ∧ Below w.heap.size w w' := by
  have HE := gencode_any ⟨0, 1, 2, 0, ⟨0, 0, 0, 0, 0⟩⟩ w (by unfold G.I i64 M.I; decide) ht
  rw [wakes_enc, show G.valid ⟨0, 1, 2, 0, ⟨0, 0, 0, 0, 0⟩⟩ = true from G.of_parts (by decide)] at HE
  have HE : Hid (Calls Tryd.prog 10 #[.agg #[.int .i64 0, .int .i64 1, .int .i64 2, .int .i64 0, .int .i64 0, .int .i64 0, .int .i64 0, .int .i64 0, .int .i64 0]] w (RetE w true [0, 1, 2, 0])) := Lib.hid HE
  clear ht
  go_enter Tryd.func9, Tryd.ntmps9
  go_wp2_with fail
  refine HE.out.mono ?_
  rintro e w' ⟨A1, n1, c1, rfl, ho, hb⟩
  rw [if_pos rfl] at ho ⊢
  have hl := ho.len
  have hc1 := ho.cap
  have hn1 : n1 = 8 := hl.symm
  subst hn1
  have h4c : 4 ≤ c1 := by omega
  have H3 := Lib.hid ((ho.rd.take 4 (by omega)).below (below_alloc (Below.refl _ _) (.cells (nums .u8 [0, 1, 2, 0]).toArray 5)))
  have H4 := Lib.hid (litB w' (0, 0) [0, 1, 2, 0] (Nat.le_of_ble_eq_true rfl) (By_of _ (by decide)))
  have B4 := Lib.hid (hb.alloc hb.size (.cells (nums .u8 [0, 1, 2, 0]).toArray 5))
  have e4 : (full [0, 1, 2, 0]).take 4 = [0, 1, 2, 0] := rfl
  rw [e4] at H3
  clear ho hb hl e4
  go_wp2_with fail
  refine (same_any _ _ _ _ _ _ _ _ _ H3.out H4.out).mono ?_
  rintro e w'' ⟨rfl, ⟨q, rfl⟩⟩
  rw [eqL_self]
  go_wp2
  go_ret
  exact ⟨rfl, pw_below_drewN B4.out _⟩
set_option maxHeartbeats 4000000 in
set_option maxRecDepth 100000 in
theorem putsLaw (A : Option Addr) (n c : Nat) (xs : List Int) (g : G) (w : World) (hr : RdB w A n xs) (_ : n ≤ c) (hn : n * 1 ≤ 140737488351232) (hg : g.I) (ht : Table w) :
    Calls Tryd.prog 3 #[.slice A n c, g.agg] w fun e w' => e = .returned (.bool true) ∧ Below w.heap.size w w' := by
  have HT := Lib.hid ht
  have HV := Lib.hid (gvalid_any g)
  have HV' := Lib.hid (refgvalid_any g)
  have hl : n + 81 ≤ 140737488355328 := by omega
  have HPut := Lib.hid (fun W (h : RdB W A n xs) => gput_any A n c xs g W h hg hl)
  have HPut' := Lib.hid (fun W (h : RdB W A n xs) => refgput_any A n c xs g W h hg hl)
  have HEn := Lib.hid (fun W (h : Table W) => gencode_any g W hg h)
  have HEn' := Lib.hid (fun W => refgencode_any g W hg)
  have HR := Lib.hid hr
  clear hr hn hg ht
  generalize g.valid = b at HV HV' HEn HEn'
  generalize xs ++ g.enc = out at HPut HPut'
  generalize g.enc = EE at HEn HEn'
  obtain ⟨f, t, a, s, k, o, d, u, v⟩ := g
  have HV : Hid (∀ W, Calls Tryd.prog 12 #[.agg #[.int .i64 f, .int .i64 t, .int .i64 a, .int .i64 s, .int .i64 k, .int .i64 o, .int .i64 d, .int .i64 u, .int .i64 v]] W fun e w' => e = .returned (.bool b) ∧ Below W.heap.size W w') := HV
  have HV' : Hid (∀ W, Calls Tryd.prog 13 #[.agg #[.int .i64 f, .int .i64 t, .int .i64 a, .int .i64 s, .int .i64 k, .int .i64 o, .int .i64 d, .int .i64 u, .int .i64 v]] W fun e w' => e = .returned (.bool b) ∧ Below W.heap.size W w') := HV'
  have HPut : Hid (∀ W, RdB W A n xs → Calls Tryd.prog 15 #[.slice A n c, .agg #[.int .i64 f, .int .i64 t, .int .i64 a, .int .i64 s, .int .i64 k, .int .i64 o, .int .i64 d, .int .i64 u, .int .i64 v]] W (RetB W out)) := HPut
  have HPut' : Hid (∀ W, RdB W A n xs → Calls Tryd.prog 16 #[.slice A n c, .agg #[.int .i64 f, .int .i64 t, .int .i64 a, .int .i64 s, .int .i64 k, .int .i64 o, .int .i64 d, .int .i64 u, .int .i64 v]] W (RetB W out)) := HPut'
  have HEn : Hid (∀ W, Table W → Calls Tryd.prog 10 #[.agg #[.int .i64 f, .int .i64 t, .int .i64 a, .int .i64 s, .int .i64 k, .int .i64 o, .int .i64 d, .int .i64 u, .int .i64 v]] W (RetE W b EE)) := HEn
  have HEn' : Hid (∀ W, Calls Tryd.prog 11 #[.agg #[.int .i64 f, .int .i64 t, .int .i64 a, .int .i64 s, .int .i64 k, .int .i64 o, .int .i64 d, .int .i64 u, .int .i64 v]] W (RetE W b EE)) := HEn'
  show Calls Tryd.prog 3 #[.slice A n c, .agg #[.int .i64 f, .int .i64 t, .int .i64 a, .int .i64 s, .int .i64 k, .int .i64 o, .int .i64 d, .int .i64 u, .int .i64 v]] w _
  have hbb : (b == b) = true := beq_self_eq_true _
  have HBX := Lib.hid (GBox.new w f t a s k o d u v)
  have B1 := Lib.hid (below_alloc (Below.refl w.heap.size w) (.cells #[.int .i64 f, .int .i64 t, .int .i64 a, .int .i64 s, .int .i64 k, .int .i64 o, .int .i64 d, .int .i64 u, .int .i64 v] 26))
  have hs1 := B1.out.size
  obtain ⟨E, hE⟩ : ∃ E : List Int, (if b = true then full EE else []) = E := ⟨_, rfl⟩
  obtain ⟨r, hrr⟩ : ∃ r : Int, (if b = true then (0 : Int) else 1) = r := ⟨_, rfl⟩
  have hrb : (r == r) = true := beq_self_eq_true _
  unfold RetE at HEn HEn'
  rw [hE, hrr] at HEn HEn'
  clear hE hrr
  go_enter Tryd.func3, Tryd.ntmps3
  go_wp2_with fail
  refine (wakes_any _ (HT.out.below B1.out)).mono ?_
  rintro e w2 ⟨rfl, hb⟩
  have B2 := Lib.hid (B1.out.trans (hb.mono hs1))
  have hs2 := B2.out.size
  have HX2 := Lib.hid (HBX.out.below hb)
  obtain ⟨⟨y0, y1, y2, y3⟩, y4, y5, y6, y7, y8⟩ := HX2.out
  dsimp only at y0 y1 y2 y3 y4 y5 y6 y7 y8
  clear hb
  go_wp2_with fail
  refine (HEn.out _ (HT.out.below B2.out)).mono ?_
  rintro e w3 ⟨A3, n3, c3, rfl, ho, hb⟩
  have B3 := Lib.hid (B2.out.trans (hb.mono hs2))
  have hs3 := B3.out.size
  have HX3 := Lib.hid (HX2.out.below hb)
  have HE3 := Lib.hid ho.rd
  obtain ⟨⟨y0, y1, y2, y3⟩, y4, y5, y6, y7, y8⟩ := HX3.out
  dsimp only at y0 y1 y2 y3 y4 y5 y6 y7 y8
  clear ho hb
  go_wp2_with fail
  refine (HEn'.out _).mono ?_
  rintro e w4 ⟨A4, n4, c4, rfl, ho, hb⟩
  have B4 := Lib.hid (B3.out.trans (hb.mono hs3))
  have HX4 := Lib.hid (HX3.out.below hb)
  have HE4 := Lib.hid ho.rd
  have HD4 := Lib.hid (HE3.out.below hb)
  obtain ⟨⟨y0, y1, y2, y3⟩, y4, y5, y6, y7, y8⟩ := HX4.out
  dsimp only at y0 y1 y2 y3 y4 y5 y6 y7 y8
  clear ho hb
  go_wp2_with fail
  have B5 := Lib.hid B4.out.drew
  have hs5 := B5.out.size
  have HX5 := Lib.hid (HX4.out.below (Below.refl _ _).drew)
  have HE5 := Lib.hid (HE4.out.below (Below.refl _ _).drew)
  have HD5 := Lib.hid (HD4.out.below (Below.refl _ _).drew)
  go_region_held3 (fun W => W.cell? ⟨w.heap.size, 0, none⟩ = some (.int .i64 f) ∧ W.cell? ⟨w.heap.size, 1, none⟩ = some (.int .i64 t) ∧ W.cell? ⟨w.heap.size, 2, none⟩ = some (.int .i64 a) ∧ W.cell? ⟨w.heap.size, 3, none⟩ = some (.int .i64 s) ∧ W.cell? ⟨w.heap.size, 4, none⟩ = some (.int .i64 k) ∧ W.cell? ⟨w.heap.size, 5, none⟩ = some (.int .i64 o) ∧ W.cell? ⟨w.heap.size, 6, none⟩ = some (.int .i64 d) ∧ W.cell? ⟨w.heap.size, 7, none⟩ = some (.int .i64 u) ∧ W.cell? ⟨w.heap.size, 8, none⟩ = some (.int .i64 v)) (first | assumption | exact ⟨by assumption, by assumption, by assumption, by assumption, by assumption, by assumption, by assumption, by assumption, by assumption⟩) (first | (go_at_call 12; refine (HV.out _).mono ?_; rintro e w6 ⟨rfl, hb⟩; have B6 := Lib.hid (B5.out.trans (hb.mono hs5)); have hs6 := B6.out.size; have HX6 := Lib.hid (HX5.out.below hb); have HE6 := Lib.hid (HE5.out.below hb); have HD6 := Lib.hid (HD5.out.below hb); obtain ⟨⟨z0, z1, z2, z3⟩, z4, z5, z6, z7, z8⟩ := HX6.out; dsimp only at z0 z1 z2 z3 z4 z5 z6 z7 z8; clear hb) | (go_at_call 13; refine (HV'.out _).mono ?_; rintro e w7 ⟨rfl, hb⟩; have B7 := Lib.hid (B6.out.trans (hb.mono hs6)); have hs7 := B7.out.size; have HX7 := Lib.hid (HX6.out.below hb); have HE7 := Lib.hid (HE6.out.below hb); have HD7 := Lib.hid (HD6.out.below hb); obtain ⟨⟨z0, z1, z2, z3⟩, z4, z5, z6, z7, z8⟩ := HX7.out; dsimp only at z0 z1 z2 z3 z4 z5 z6 z7 z8; clear hb) | (go_at_call 15; refine (HPut.out _ (HR.out.below B7.out)).mono ?_; rintro e w8 ⟨A8, n8, c8, rfl, ho, hb⟩; have B8 := Lib.hid (B7.out.trans (hb.mono hs7)); have hs8 := B8.out.size; have HX8 := Lib.hid (HX7.out.below hb); have HE8 := Lib.hid (HE7.out.below hb); have HD8 := Lib.hid (HD7.out.below hb); have HO8 := Lib.hid ho; obtain ⟨⟨z0, z1, z2, z3⟩, z4, z5, z6, z7, z8⟩ := HX8.out; dsimp only at z0 z1 z2 z3 z4 z5 z6 z7 z8; clear hb; clear ho) | (go_at_call 16; refine (HPut'.out _ (HR.out.below B8.out)).mono ?_; rintro e w9 ⟨A9, n9, c9, rfl, ho, hb⟩; have B9 := Lib.hid (B8.out.trans (hb.mono hs8)); have hs9 := B9.out.size; have HX9 := Lib.hid (HX8.out.below hb); have HE9 := Lib.hid (HE8.out.below hb); have HD9 := Lib.hid (HD8.out.below hb); have HP9 := Lib.hid (HO8.out.below hb).rd; have HO9 := Lib.hid ho.rd; obtain ⟨⟨z0, z1, z2, z3⟩, z4, z5, z6, z7, z8⟩ := HX9.out; dsimp only at z0 z1 z2 z3 z4 z5 z6 z7 z8; clear hb; clear ho) | (go_at_call 14; (with_reducible refine (same_any _ _ _ _ _ _ _ _ _ HP9.out HO9.out).mono ?_); rintro e wa ⟨rfl, ⟨q, rfl⟩⟩; rw [eqL_self]; have HEa := Lib.hid (HE9.out.drawn q); have HDa := Lib.hid (HD9.out.drawn q)) | (go_at_call 14; (with_reducible refine (same_any _ _ _ _ _ _ _ _ _ HDa.out HEa.out).mono ?_); rintro e wb ⟨rfl, ⟨qq, rfl⟩⟩; rw [eqL_self]))
  go_wp2
  go_ret
  exact ⟨rfl, pw_below_drewN B9.out _⟩
end Go.Proofs.YtobkcedmjeidfaaDoor.graml
