/- The walk of the law GramUnlike. -/
import Derived.Test.YtobkcedmjeidfaaDoorGramLaws1
import Derived.Test.YtobkcedmjeidfaaDoorGramPure2
set_option linter.unusedVariables false
set_option linter.unusedSimpArgs false
namespace Go.Proofs.YtobkcedmjeidfaaDoor.graml
open Go.RowKit Go.Proofs.YtobkcedmjeidfaaDoorW.PrintWords Go.Proofs.YtobkcedmjeidfaaDoor.base Go.Proofs.YtobkcedmjeidfaaDoor.mem Go.Proofs.YtobkcedmjeidfaaDoor.packp Go.Proofs.YtobkcedmjeidfaaDoor.packw Go.Proofs.YtobkcedmjeidfaaDoor.samew Go.Proofs.YtobkcedmjeidfaaDoor.wirep Go.Proofs.YtobkcedmjeidfaaDoor.wirew Go.Proofs.YtobkcedmjeidfaaDoor.gramp Go.Proofs.YtobkcedmjeidfaaDoor.gramw Go.Proofs.YtobkcedmjeidfaaDoor.crcp Go.Proofs.YtobkcedmjeidfaaDoor.crcw

theorem GBox.new' (w : World) (z : Nat) (hs : w.heap.size = z) (f t a s k o d u v : Int) : GBox (w.alloc (.cells #[.int .i64 f, .int .i64 t, .int .i64 a, .int .i64 s, .int .i64 k, .int .i64 o, .int .i64 d, .int .i64 u, .int .i64 v] 26)) z ⟨f, t, a, s, ⟨k, o, d, u, v⟩⟩ := by subst hs; exact GBox.new _ _ _ _ _ _ _ _ _ _
set_option maxHeartbeats 8000000 in
set_option maxRecDepth 100000 in
theorem unlikeLaw (a b : G) (w : World) (ha : a.I) (hb : b.I) (ht : Table w) :
    Calls Tryd.prog 4 #[a.agg, b.agg] w fun e w' => e = .returned (.bool true) ∧ Below w.heap.size w w' := by
  have HT := Lib.hid ht
  have VA := Lib.hid (gvalid_any a)
  have VB := Lib.hid (gvalid_any b)
  have PA := Lib.hid (fun W => gput_any none 0 0 [] a W (nilB _) ha (by decide))
  have PB := Lib.hid (fun W => gput_any none 0 0 [] b W (nilB _) hb (by decide))
  have QA := Lib.hid (fun W h => gencode_any a W ha h)
  have QB := Lib.hid (fun W h => gencode_any b W hb h)
  have FA : Hid (a.valid = false → a.enc = []) := Lib.hid G.enc_none
  have FB : Hid (b.valid = false → b.enc = []) := Lib.hid G.enc_none
  have FL : Hid (a.valid = true → b.valid = true → (0 < a.enc.length ∧ 0 < b.enc.length) ∧ (a ≠ b → (∀ n, n = min a.enc.length b.enc.length → eqL (a.enc.take n) (b.enc.take n) = false) ∧ eqL (full a.enc) (full b.enc) = false)) := Lib.hid fun h1 h2 => ⟨⟨G.enc_pos h1, G.enc_pos h2⟩, fun h => G.unlike h1 h2 h⟩
  clear ha hb ht
  obtain ⟨a0, a1, a2, a3, a4, a5, a6, a7, a8⟩ := a
  obtain ⟨b0, b1, b2, b3, b4, b5, b6, b7, b8⟩ := b
  show Calls Tryd.prog 4 #[.agg #[.int .i64 a0, .int .i64 a1, .int .i64 a2, .int .i64 a3, .int .i64 a4, .int .i64 a5, .int .i64 a6, .int .i64 a7, .int .i64 a8], .agg #[.int .i64 b0, .int .i64 b1, .int .i64 b2, .int .i64 b3, .int .i64 b4, .int .i64 b5, .int .i64 b6, .int .i64 b7, .int .i64 b8]] w _
  have VA : Hid (∀ W, Calls Tryd.prog 12 #[.agg #[.int .i64 a0, .int .i64 a1, .int .i64 a2, .int .i64 a3, .int .i64 a4, .int .i64 a5, .int .i64 a6, .int .i64 a7, .int .i64 a8]] W fun e w' => e = .returned (.bool (G.valid ⟨a0, a1, a2, a3, ⟨a4, a5, a6, a7, a8⟩⟩)) ∧ Below W.heap.size W w') := VA
  have PA : Hid (∀ W, Calls Tryd.prog 15 #[.slice none 0 0, .agg #[.int .i64 a0, .int .i64 a1, .int .i64 a2, .int .i64 a3, .int .i64 a4, .int .i64 a5, .int .i64 a6, .int .i64 a7, .int .i64 a8]] W (RetB W ([] ++ G.enc ⟨a0, a1, a2, a3, ⟨a4, a5, a6, a7, a8⟩⟩))) := PA
  have QA : Hid (∀ W, Table W → Calls Tryd.prog 10 #[.agg #[.int .i64 a0, .int .i64 a1, .int .i64 a2, .int .i64 a3, .int .i64 a4, .int .i64 a5, .int .i64 a6, .int .i64 a7, .int .i64 a8]] W (RetE W (G.valid ⟨a0, a1, a2, a3, ⟨a4, a5, a6, a7, a8⟩⟩) (G.enc ⟨a0, a1, a2, a3, ⟨a4, a5, a6, a7, a8⟩⟩))) := QA
  have VB : Hid (∀ W, Calls Tryd.prog 12 #[.agg #[.int .i64 b0, .int .i64 b1, .int .i64 b2, .int .i64 b3, .int .i64 b4, .int .i64 b5, .int .i64 b6, .int .i64 b7, .int .i64 b8]] W fun e w' => e = .returned (.bool (G.valid ⟨b0, b1, b2, b3, ⟨b4, b5, b6, b7, b8⟩⟩)) ∧ Below W.heap.size W w') := VB
  have PB : Hid (∀ W, Calls Tryd.prog 15 #[.slice none 0 0, .agg #[.int .i64 b0, .int .i64 b1, .int .i64 b2, .int .i64 b3, .int .i64 b4, .int .i64 b5, .int .i64 b6, .int .i64 b7, .int .i64 b8]] W (RetB W ([] ++ G.enc ⟨b0, b1, b2, b3, ⟨b4, b5, b6, b7, b8⟩⟩))) := PB
  have QB : Hid (∀ W, Table W → Calls Tryd.prog 10 #[.agg #[.int .i64 b0, .int .i64 b1, .int .i64 b2, .int .i64 b3, .int .i64 b4, .int .i64 b5, .int .i64 b6, .int .i64 b7, .int .i64 b8]] W (RetE W (G.valid ⟨b0, b1, b2, b3, ⟨b4, b5, b6, b7, b8⟩⟩) (G.enc ⟨b0, b1, b2, b3, ⟨b4, b5, b6, b7, b8⟩⟩))) := QB
  have XA1 := Lib.hid ((GBox.new w a0 a1 a2 a3 a4 a5 a6 a7 a8).below (below_alloc (Below.refl _ _) (.cells #[.int .i64 b0, .int .i64 b1, .int .i64 b2, .int .i64 b3, .int .i64 b4, .int .i64 b5, .int .i64 b6, .int .i64 b7, .int .i64 b8] 26)))
  have XB1 := Lib.hid (GBox.new' (w.alloc (.cells #[.int .i64 a0, .int .i64 a1, .int .i64 a2, .int .i64 a3, .int .i64 a4, .int .i64 a5, .int .i64 a6, .int .i64 a7, .int .i64 a8] 26)) (w.heap.size + 1) (by simp) b0 b1 b2 b3 b4 b5 b6 b7 b8)
  have HB1 := Lib.hid ((below_alloc (Below.refl w.heap.size w) (.cells #[.int .i64 a0, .int .i64 a1, .int .i64 a2, .int .i64 a3, .int .i64 a4, .int .i64 a5, .int .i64 a6, .int .i64 a7, .int .i64 a8] 26)).alloc (by simp) (.cells #[.int .i64 b0, .int .i64 b1, .int .i64 b2, .int .i64 b3, .int .i64 b4, .int .i64 b5, .int .i64 b6, .int .i64 b7, .int .i64 b8] 26))
  have hs1 := HB1.out.size
  have HT1 := Lib.hid (HT.out.below HB1.out)
  go_enter Tryd.func4, Tryd.ntmps4
  go_wp2_with fail
  refine (wakes_any _ HT1.out).mono ?_
  rintro e w2 ⟨rfl, hb⟩
  have HB2 := Lib.hid (HB1.out.trans (hb.mono hs1))
  have hs2 := HB2.out.size
  have XA2 := Lib.hid (XA1.out.below hb)
  have XB2 := Lib.hid (XB1.out.below hb)
  obtain ⟨⟨e0, e1, e2, e3⟩, e4, e5, e6, e7, e8⟩ := XA2.out
  obtain ⟨⟨f0, f1, f2, f3⟩, f4, f5, f6, f7, f8⟩ := XB2.out
  dsimp only at e0 e1 e2 e3 e4 e5 e6 e7 e8 f0 f1 f2 f3 f4 f5 f6 f7 f8
  clear hb
  go_wp2_with fail
  refine (VA.out _).mono ?_
  rintro e w3 ⟨rfl, hb⟩
  have HB3 := Lib.hid (HB2.out.trans (hb.mono hs2))
  have hs3 := HB3.out.size
  have XA3 := Lib.hid (XA2.out.below hb)
  have XB3 := Lib.hid (XB2.out.below hb)
  obtain ⟨⟨e0, e1, e2, e3⟩, e4, e5, e6, e7, e8⟩ := XA3.out
  obtain ⟨⟨f0, f1, f2, f3⟩, f4, f5, f6, f7, f8⟩ := XB3.out
  dsimp only at e0 e1 e2 e3 e4 e5 e6 e7 e8 f0 f1 f2 f3 f4 f5 f6 f7 f8
  clear hb
  have HQ : Hid ((⟨a0, a1, a2, a3, ⟨a4, a5, a6, a7, a8⟩⟩ : G) = ⟨b0, b1, b2, b3, ⟨b4, b5, b6, b7, b8⟩⟩ → G.enc ⟨a0, a1, a2, a3, ⟨a4, a5, a6, a7, a8⟩⟩ = G.enc ⟨b0, b1, b2, b3, ⟨b4, b5, b6, b7, b8⟩⟩) := Lib.hid fun h => by rw [h]
  generalize G.enc ⟨a0, a1, a2, a3, ⟨a4, a5, a6, a7, a8⟩⟩ = EA at PA QA FA FL HQ
  generalize G.enc ⟨b0, b1, b2, b3, ⟨b4, b5, b6, b7, b8⟩⟩ = EB at PB QB FB FL HQ
  cases va : G.valid ⟨a0, a1, a2, a3, ⟨a4, a5, a6, a7, a8⟩⟩
  · have EA0 := FA.out va
    clear va
    subst EA0
    go_wp2_with fail
    refine (PA.out _).mono ?_
    rintro e w4 ⟨A4, n4, c4, rfl, ho, hb⟩
    have HB4 := Lib.hid (HB3.out.trans (hb.mono hs3))
    have hs4 := HB4.out.size
    have XA4 := Lib.hid (XA3.out.below hb)
    have XB4 := Lib.hid (XB3.out.below hb)
    obtain ⟨⟨e0, e1, e2, e3⟩, e4, e5, e6, e7, e8⟩ := XA4.out
    obtain ⟨⟨f0, f1, f2, f3⟩, f4, f5, f6, f7, f8⟩ := XB4.out
    dsimp only at e0 e1 e2 e3 e4 e5 e6 e7 e8 f0 f1 f2 f3 f4 f5 f6 f7 f8
    clear hb
    have hl4 : 0 = n4 := ho.len
    subst hl4
    clear ho
    go_wp2
    go_ret
    exact ⟨rfl, HB4.out⟩
  go_wp2_with fail
  refine (VB.out _).mono ?_
  rintro e w4 ⟨rfl, hb⟩
  have HB4 := Lib.hid (HB3.out.trans (hb.mono hs3))
  have hs4 := HB4.out.size
  have XA4 := Lib.hid (XA3.out.below hb)
  have XB4 := Lib.hid (XB3.out.below hb)
  obtain ⟨⟨e0, e1, e2, e3⟩, e4, e5, e6, e7, e8⟩ := XA4.out
  obtain ⟨⟨f0, f1, f2, f3⟩, f4, f5, f6, f7, f8⟩ := XB4.out
  dsimp only at e0 e1 e2 e3 e4 e5 e6 e7 e8 f0 f1 f2 f3 f4 f5 f6 f7 f8
  clear hb
  cases vb : G.valid ⟨b0, b1, b2, b3, ⟨b4, b5, b6, b7, b8⟩⟩
  · have EB0 := FB.out vb
    clear vb va
    subst EB0
    go_wp2_with fail
    refine (PA.out _).mono ?_
    rintro e w5 ⟨A5, n5, c5, rfl, ho, hb⟩
    have HB5 := Lib.hid (HB4.out.trans (hb.mono hs4))
    have hs5 := HB5.out.size
    have XA5 := Lib.hid (XA4.out.below hb)
    have XB5 := Lib.hid (XB4.out.below hb)
    obtain ⟨⟨e0, e1, e2, e3⟩, e4, e5, e6, e7, e8⟩ := XA5.out
    obtain ⟨⟨f0, f1, f2, f3⟩, f4, f5, f6, f7, f8⟩ := XB5.out
    dsimp only at e0 e1 e2 e3 e4 e5 e6 e7 e8 f0 f1 f2 f3 f4 f5 f6 f7 f8
    clear hb
    clear ho
    by_cases hz : n5 = 0
    · subst hz
      go_wp2
      go_ret
      exact ⟨rfl, HB5.out⟩
    · have hzb : ((n5 : Int) == 0) = false := beq_eq_false_iff_ne.2 (by omega)
      go_wp2_with fail
      refine (PB.out _).mono ?_
      rintro e w6 ⟨A6, n6, c6, rfl, ho, hb⟩
      have HB6 := Lib.hid (HB5.out.trans (hb.mono hs5))
      have hs6 := HB6.out.size
      have XA6 := Lib.hid (XA5.out.below hb)
      have XB6 := Lib.hid (XB5.out.below hb)
      obtain ⟨⟨e0, e1, e2, e3⟩, e4, e5, e6, e7, e8⟩ := XA6.out
      obtain ⟨⟨f0, f1, f2, f3⟩, f4, f5, f6, f7, f8⟩ := XB6.out
      dsimp only at e0 e1 e2 e3 e4 e5 e6 e7 e8 f0 f1 f2 f3 f4 f5 f6 f7 f8
      clear hb
      have hl6 : 0 = n6 := ho.len
      subst hl6
      clear ho
      go_wp2
      go_ret
      exact ⟨rfl, HB6.out⟩
  obtain ⟨⟨la, lb⟩, FU⟩ := FL.out va vb
  have HFU := Lib.hid FU
  unfold RetE at QA QB
  simp only [va, if_true] at QA
  simp only [vb, if_true] at QB
  clear FU va vb FA FB FL VA VB
  go_wp2_with fail
  have HBD := Lib.hid HB4.out.drew
  have XAD := Lib.hid (XA4.out.below (Below.refl _ _).drew)
  have XBD := Lib.hid (XB4.out.below (Below.refl _ _).drew)
  have hsD := HBD.out.size
  go_region_held3 (fun W => W.cell? ⟨w.heap.size, 0, none⟩ = some (.int .i64 a0) ∧ W.cell? ⟨w.heap.size, 1, none⟩ = some (.int .i64 a1) ∧ W.cell? ⟨w.heap.size, 2, none⟩ = some (.int .i64 a2) ∧ W.cell? ⟨w.heap.size, 3, none⟩ = some (.int .i64 a3) ∧ W.cell? ⟨w.heap.size, 4, none⟩ = some (.int .i64 a4) ∧ W.cell? ⟨w.heap.size, 5, none⟩ = some (.int .i64 a5) ∧ W.cell? ⟨w.heap.size, 6, none⟩ = some (.int .i64 a6) ∧ W.cell? ⟨w.heap.size, 7, none⟩ = some (.int .i64 a7) ∧ W.cell? ⟨w.heap.size, 8, none⟩ = some (.int .i64 a8) ∧ W.cell? ⟨w.heap.size + 1, 0, none⟩ = some (.int .i64 b0) ∧ W.cell? ⟨w.heap.size + 1, 1, none⟩ = some (.int .i64 b1) ∧ W.cell? ⟨w.heap.size + 1, 2, none⟩ = some (.int .i64 b2) ∧ W.cell? ⟨w.heap.size + 1, 3, none⟩ = some (.int .i64 b3) ∧ W.cell? ⟨w.heap.size + 1, 4, none⟩ = some (.int .i64 b4) ∧ W.cell? ⟨w.heap.size + 1, 5, none⟩ = some (.int .i64 b5) ∧ W.cell? ⟨w.heap.size + 1, 6, none⟩ = some (.int .i64 b6) ∧ W.cell? ⟨w.heap.size + 1, 7, none⟩ = some (.int .i64 b7) ∧ W.cell? ⟨w.heap.size + 1, 8, none⟩ = some (.int .i64 b8)) (first | assumption | exact ⟨by assumption, by assumption, by assumption, by assumption, by assumption, by assumption, by assumption, by assumption, by assumption, by assumption, by assumption, by assumption, by assumption, by assumption, by assumption, by assumption, by assumption, by assumption⟩) (first | (go_at_call 15; (with_reducible refine (PA.out _).mono ?_); rintro e w5 ⟨A5, n5, c5, rfl, ho, hb⟩; have HO5 := Lib.hid ho; have HB5 := Lib.hid (HBD.out.trans (hb.mono hsD)); have hs5 := HB5.out.size; have XA5 := Lib.hid (XAD.out.below hb); have XB5 := Lib.hid (XBD.out.below hb); obtain ⟨⟨e0, e1, e2, e3⟩, e4, e5, e6, e7, e8⟩ := XA5.out; obtain ⟨⟨f0, f1, f2, f3⟩, f4, f5, f6, f7, f8⟩ := XB5.out; dsimp only at e0 e1 e2 e3 e4 e5 e6 e7 e8 f0 f1 f2 f3 f4 f5 f6 f7 f8; clear hb ho) | (go_at_call 15; (with_reducible refine (PB.out _).mono ?_); rintro e w6 ⟨A6, n6, c6, rfl, ho, hb⟩; have HO6 := Lib.hid ho; have HP6 := Lib.hid (HO5.out.below hb); have HB6 := Lib.hid (HB5.out.trans (hb.mono hs5)); have hs6 := HB6.out.size; have XA6 := Lib.hid (XA5.out.below hb); have XB6 := Lib.hid (XB5.out.below hb); obtain ⟨⟨e0, e1, e2, e3⟩, e4, e5, e6, e7, e8⟩ := XA6.out; obtain ⟨⟨f0, f1, f2, f3⟩, f4, f5, f6, f7, f8⟩ := XB6.out; dsimp only at e0 e1 e2 e3 e4 e5 e6 e7 e8 f0 f1 f2 f3 f4 f5 f6 f7 f8; clear hb ho))
  have hl5 := HP6.out.len
  have hl6 := HO6.out.len
  rw [List.nil_append] at hl5 hl6
  have cap5 := HP6.out.cap
  have cap6 := HO6.out.cap
  have RA6 : Hid (RdB w6 A5 n5 EA) := Lib.hid (by have := HP6.out.rd; rwa [List.nil_append] at this)
  have RB6 : Hid (RdB w6 A6 n6 EB) := Lib.hid (by have := HO6.out.rd; rwa [List.nil_append] at this)
  have HT6 := Lib.hid (HT.out.below HB6.out)
  rw [hl5] at la
  rw [hl6] at lb
  rw [hl5, hl6] at HFU
  have HL5 := Lib.hid hl5
  have HL6 := Lib.hid hl6
  clear hl5 hl6 PA PB HO5 HO6 HP6
  by_cases hab : (⟨a0, a1, a2, a3, ⟨a4, a5, a6, a7, a8⟩⟩ : G) = ⟨b0, b1, b2, b3, ⟨b4, b5, b6, b7, b8⟩⟩
  · have hq := HQ.out hab
    subst hq
    injection hab with z0 z1 z2 z3 zm
    injection zm with z4 z5 z6 z7 z8
    subst z0 z1 z2 z3 z4 z5 z6 z7 z8
    have hn : n5 = n6 := HL5.out.symm.trans HL6.out
    subst hn
    clear HFU HQ
    have cx : n5 ≤ c5 := by omega
    have cy : n5 ≤ c6 := by omega
    have mx : n5 ≤ n5 := by omega
    have my : n5 ≤ n5 := by omega
    have mp : decide ((0 : Int) < (n5 : Int)) = true := decide_eq_true (by omega)
    have mp' : decide (0 < n5) = true := decide_eq_true (by omega)
    go_wp2_with fail
    refine (QA.out _ HT6.out).mono ?_
    rintro e w7 ⟨A7, n7, c7, rfl, ho, hb⟩
    have RA7 := Lib.hid (RA6.out.below hb)
    have RB7 := Lib.hid (RB6.out.below hb)
    have FA7 := Lib.hid ho.rd
    have HB7 := Lib.hid (HB6.out.trans (hb.mono hs6))
    have hs7 := HB7.out.size
    have XA7 := Lib.hid (XA6.out.below hb)
    have XB7 := Lib.hid (XB6.out.below hb)
    obtain ⟨⟨e0, e1, e2, e3⟩, e4, e5, e6, e7, e8⟩ := XA7.out
    obtain ⟨⟨f0, f1, f2, f3⟩, f4, f5, f6, f7, f8⟩ := XB7.out
    dsimp only at e0 e1 e2 e3 e4 e5 e6 e7 e8 f0 f1 f2 f3 f4 f5 f6 f7 f8
    have HT7 := Lib.hid (HT6.out.below hb)
    clear ho hb
    go_wp2_with fail
    refine (QB.out _ HT7.out).mono ?_
    rintro e w8 ⟨A8, n8, c8, rfl, ho, hb⟩
    have RA8 := Lib.hid (RA7.out.below hb)
    have RB8 := Lib.hid (RB7.out.below hb)
    have FA8 := Lib.hid (FA7.out.below hb)
    have FB8 := Lib.hid ho.rd
    have HB8 := Lib.hid (HB7.out.trans (hb.mono hs7))
    have hs8 := HB8.out.size
    have XA8 := Lib.hid (XA7.out.below hb)
    have XB8 := Lib.hid (XB7.out.below hb)
    obtain ⟨⟨e0, e1, e2, e3⟩, e4, e5, e6, e7, e8⟩ := XA8.out
    obtain ⟨⟨f0, f1, f2, f3⟩, f4, f5, f6, f7, f8⟩ := XB8.out
    dsimp only at e0 e1 e2 e3 e4 e5 e6 e7 e8 f0 f1 f2 f3 f4 f5 f6 f7 f8
    clear ho hb
    have KX : Hid (∀ q, RdB (w8.drewN q) A5 n5 (EA.take n5)) := Lib.hid fun q => (RA8.out.take _ mx).drawn q
    have KY : Hid (∀ q, RdB (w8.drewN q) A6 n5 (EA.take n5)) := Lib.hid fun q => (RB8.out.take _ my).drawn q
    have KP : Hid (∀ q, RdB (w8.drewN q) A7 n7 (full EA)) := Lib.hid fun q => FA8.out.drawn q
    have KQ : Hid (∀ q, RdB (w8.drewN q) A8 n8 (full EA)) := Lib.hid fun q => FB8.out.drawn q
    clear RA6 RB6 RA7 RB7 RA8 RB8 FA7 FA8 FB8 QA QB HT6 HT7 HT XA1 XB1 XA2 XB2 XA3 XB3 XA4 XB4 XAD XBD XA5 XB5 XA6 XB6 XA7 XB7
    have hge := geq a0 a1 a2 a3 a4 a5 a6 a7 a8 a0 a1 a2 a3 a4 a5 a6 a7 a8
    simp only [decide_true] at hge
    go_wp2_with fail
    go_quiet ((first | (go_at_call 14; (with_reducible exact Calls.quiet_of ((same_any _ _ _ _ _ _ _ _ _ (KX.out _) (KY.out _)).mono fun _ _ h => ⟨by rw [h.1, eqL_self], h.2.out⟩))) | (go_at_call 14; (with_reducible exact Calls.quiet_of ((same_any _ _ _ _ _ _ _ _ _ (KP.out _) (KQ.out _)).mono fun _ _ h => ⟨by rw [h.1, eqL_self], h.2.out⟩)))))
    go_wp2
    go_ret
    exact ⟨rfl, pw_below_drewN HB8.out _⟩
  · by_cases hle : n5 ≤ n6
    · skip
      have cx : n5 ≤ c5 := by omega
      have cy : n5 ≤ c6 := by omega
      have mx : n5 ≤ n5 := by omega
      have my : n5 ≤ n6 := by omega
      have mp : decide ((0 : Int) < (n5 : Int)) = true := decide_eq_true (by omega)
      have mp' : decide (0 < n5) = true := decide_eq_true (by omega)
      go_wp2_with fail
      refine (QA.out _ HT6.out).mono ?_
      rintro e w7 ⟨A7, n7, c7, rfl, ho, hb⟩
      have RA7 := Lib.hid (RA6.out.below hb)
      have RB7 := Lib.hid (RB6.out.below hb)
      have FA7 := Lib.hid ho.rd
      have HB7 := Lib.hid (HB6.out.trans (hb.mono hs6))
      have hs7 := HB7.out.size
      have XA7 := Lib.hid (XA6.out.below hb)
      have XB7 := Lib.hid (XB6.out.below hb)
      obtain ⟨⟨e0, e1, e2, e3⟩, e4, e5, e6, e7, e8⟩ := XA7.out
      obtain ⟨⟨f0, f1, f2, f3⟩, f4, f5, f6, f7, f8⟩ := XB7.out
      dsimp only at e0 e1 e2 e3 e4 e5 e6 e7 e8 f0 f1 f2 f3 f4 f5 f6 f7 f8
      have HT7 := Lib.hid (HT6.out.below hb)
      clear ho hb
      go_wp2_with fail
      refine (QB.out _ HT7.out).mono ?_
      rintro e w8 ⟨A8, n8, c8, rfl, ho, hb⟩
      have RA8 := Lib.hid (RA7.out.below hb)
      have RB8 := Lib.hid (RB7.out.below hb)
      have FA8 := Lib.hid (FA7.out.below hb)
      have FB8 := Lib.hid ho.rd
      have HB8 := Lib.hid (HB7.out.trans (hb.mono hs7))
      have hs8 := HB8.out.size
      have XA8 := Lib.hid (XA7.out.below hb)
      have XB8 := Lib.hid (XB7.out.below hb)
      obtain ⟨⟨e0, e1, e2, e3⟩, e4, e5, e6, e7, e8⟩ := XA8.out
      obtain ⟨⟨f0, f1, f2, f3⟩, f4, f5, f6, f7, f8⟩ := XB8.out
      dsimp only at e0 e1 e2 e3 e4 e5 e6 e7 e8 f0 f1 f2 f3 f4 f5 f6 f7 f8
      clear ho hb
      have KX : Hid (∀ q, RdB (w8.drewN q) A5 n5 (EA.take n5)) := Lib.hid fun q => (RA8.out.take _ mx).drawn q
      have KY : Hid (∀ q, RdB (w8.drewN q) A6 n5 (EB.take n5)) := Lib.hid fun q => (RB8.out.take _ my).drawn q
      have KP : Hid (∀ q, RdB (w8.drewN q) A7 n7 (full EA)) := Lib.hid fun q => FA8.out.drawn q
      have KQ : Hid (∀ q, RdB (w8.drewN q) A8 n8 (full EB)) := Lib.hid fun q => FB8.out.drawn q
      clear RA6 RB6 RA7 RB7 RA8 RB8 FA7 FA8 FB8 QA QB HT6 HT7 HT XA1 XB1 XA2 XB2 XA3 XB3 XA4 XB4 XAD XBD XA5 XB5 XA6 XB6 XA7 XB7
      have hge := geq a0 a1 a2 a3 a4 a5 a6 a7 a8 b0 b1 b2 b3 b4 b5 b6 b7 b8
      simp only [decide_eq_false hab] at hge
      have HF1 := Lib.hid ((HFU.out hab).1 n5 (by omega))
      have HF2 := Lib.hid (HFU.out hab).2
      clear hab HFU
      go_wp2_with fail
      go_quiet ((first | (go_at_call 14; (with_reducible exact Calls.quiet_of ((same_any _ _ _ _ _ _ _ _ _ (KX.out _) (KY.out _)).mono fun _ _ h => ⟨by rw [h.1, HF1.out], h.2.out⟩))) | (go_at_call 14; (with_reducible exact Calls.quiet_of ((same_any _ _ _ _ _ _ _ _ _ (KP.out _) (KQ.out _)).mono fun _ _ h => ⟨by rw [h.1, HF2.out], h.2.out⟩)))))
      go_wp2
      go_ret
      exact ⟨rfl, pw_below_drewN HB8.out _⟩
    · skip
      have cx : n6 ≤ c5 := by omega
      have cy : n6 ≤ c6 := by omega
      have mx : n6 ≤ n5 := by omega
      have my : n6 ≤ n6 := by omega
      have mp : decide ((0 : Int) < (n6 : Int)) = true := decide_eq_true (by omega)
      have mp' : decide (0 < n6) = true := decide_eq_true (by omega)
      go_wp2_with fail
      refine (QA.out _ HT6.out).mono ?_
      rintro e w7 ⟨A7, n7, c7, rfl, ho, hb⟩
      have RA7 := Lib.hid (RA6.out.below hb)
      have RB7 := Lib.hid (RB6.out.below hb)
      have FA7 := Lib.hid ho.rd
      have HB7 := Lib.hid (HB6.out.trans (hb.mono hs6))
      have hs7 := HB7.out.size
      have XA7 := Lib.hid (XA6.out.below hb)
      have XB7 := Lib.hid (XB6.out.below hb)
      obtain ⟨⟨e0, e1, e2, e3⟩, e4, e5, e6, e7, e8⟩ := XA7.out
      obtain ⟨⟨f0, f1, f2, f3⟩, f4, f5, f6, f7, f8⟩ := XB7.out
      dsimp only at e0 e1 e2 e3 e4 e5 e6 e7 e8 f0 f1 f2 f3 f4 f5 f6 f7 f8
      have HT7 := Lib.hid (HT6.out.below hb)
      clear ho hb
      go_wp2_with fail
      refine (QB.out _ HT7.out).mono ?_
      rintro e w8 ⟨A8, n8, c8, rfl, ho, hb⟩
      have RA8 := Lib.hid (RA7.out.below hb)
      have RB8 := Lib.hid (RB7.out.below hb)
      have FA8 := Lib.hid (FA7.out.below hb)
      have FB8 := Lib.hid ho.rd
      have HB8 := Lib.hid (HB7.out.trans (hb.mono hs7))
      have hs8 := HB8.out.size
      have XA8 := Lib.hid (XA7.out.below hb)
      have XB8 := Lib.hid (XB7.out.below hb)
      obtain ⟨⟨e0, e1, e2, e3⟩, e4, e5, e6, e7, e8⟩ := XA8.out
      obtain ⟨⟨f0, f1, f2, f3⟩, f4, f5, f6, f7, f8⟩ := XB8.out
      dsimp only at e0 e1 e2 e3 e4 e5 e6 e7 e8 f0 f1 f2 f3 f4 f5 f6 f7 f8
      clear ho hb
      have KX : Hid (∀ q, RdB (w8.drewN q) A5 n6 (EA.take n6)) := Lib.hid fun q => (RA8.out.take _ mx).drawn q
      have KY : Hid (∀ q, RdB (w8.drewN q) A6 n6 (EB.take n6)) := Lib.hid fun q => (RB8.out.take _ my).drawn q
      have KP : Hid (∀ q, RdB (w8.drewN q) A7 n7 (full EA)) := Lib.hid fun q => FA8.out.drawn q
      have KQ : Hid (∀ q, RdB (w8.drewN q) A8 n8 (full EB)) := Lib.hid fun q => FB8.out.drawn q
      clear RA6 RB6 RA7 RB7 RA8 RB8 FA7 FA8 FB8 QA QB HT6 HT7 HT XA1 XB1 XA2 XB2 XA3 XB3 XA4 XB4 XAD XBD XA5 XB5 XA6 XB6 XA7 XB7
      have hge := geq a0 a1 a2 a3 a4 a5 a6 a7 a8 b0 b1 b2 b3 b4 b5 b6 b7 b8
      simp only [decide_eq_false hab] at hge
      have HF1 := Lib.hid ((HFU.out hab).1 n6 (by omega))
      have HF2 := Lib.hid (HFU.out hab).2
      clear hab HFU
      go_wp2_with fail
      go_quiet ((first | (go_at_call 14; (with_reducible exact Calls.quiet_of ((same_any _ _ _ _ _ _ _ _ _ (KX.out _) (KY.out _)).mono fun _ _ h => ⟨by rw [h.1, HF1.out], h.2.out⟩))) | (go_at_call 14; (with_reducible exact Calls.quiet_of ((same_any _ _ _ _ _ _ _ _ _ (KP.out _) (KQ.out _)).mono fun _ _ h => ⟨by rw [h.1, HF2.out], h.2.out⟩)))))
      go_wp2
      go_ret
      exact ⟨rfl, pw_below_drewN HB8.out _⟩
end Go.Proofs.YtobkcedmjeidfaaDoor.graml
