/- The walk of the law GramTells. -/
import Derived.Test.YtobkcedmjeidfaaDoorGDecode
import Derived.Test.YtobkcedmjeidfaaDoorGTellPure
import Derived.Test.YtobkcedmjeidfaaDoorGramLaws1
set_option linter.unusedVariables false
set_option linter.unusedSimpArgs false
namespace Go.Proofs.YtobkcedmjeidfaaDoor.graml5
open Go.RowKit Go.Proofs.YtobkcedmjeidfaaDoorW.PrintWords Go.Proofs.YtobkcedmjeidfaaDoor.base Go.Proofs.YtobkcedmjeidfaaDoor.mem Go.Proofs.YtobkcedmjeidfaaDoor.packp Go.Proofs.YtobkcedmjeidfaaDoor.packw Go.Proofs.YtobkcedmjeidfaaDoor.samew Go.Proofs.YtobkcedmjeidfaaDoor.wirep Go.Proofs.YtobkcedmjeidfaaDoor.wirew Go.Proofs.YtobkcedmjeidfaaDoor.takew Go.Proofs.YtobkcedmjeidfaaDoor.gramp Go.Proofs.YtobkcedmjeidfaaDoor.gramw Go.Proofs.YtobkcedmjeidfaaDoor.crcp Go.Proofs.YtobkcedmjeidfaaDoor.crcw Go.Proofs.YtobkcedmjeidfaaDoor.graml Go.Proofs.YtobkcedmjeidfaaDoor.gtake

theorem idx_0 (m0 m1 m2 m3 : Int) (w : World) : (Instr.index 42 (.agg #[.int .u8 m0, .int .u8 m1, .int .u8 m2, .int .u8 m3]) (.int .i64 0)).run Tryd.prog w = .ok (.int .u8 m0) w := by kernel_rfl
theorem idx_1 (m0 m1 m2 m3 : Int) (w : World) : (Instr.index 42 (.agg #[.int .u8 m0, .int .u8 m1, .int .u8 m2, .int .u8 m3]) (.int .i64 1)).run Tryd.prog w = .ok (.int .u8 m1) w := by kernel_rfl
theorem idx_2 (m0 m1 m2 m3 : Int) (w : World) : (Instr.index 42 (.agg #[.int .u8 m0, .int .u8 m1, .int .u8 m2, .int .u8 m3]) (.int .i64 2)).run Tryd.prog w = .ok (.int .u8 m2) w := by kernel_rfl
theorem idx_3 (m0 m1 m2 m3 : Int) (w : World) : (Instr.index 42 (.agg #[.int .u8 m0, .int .u8 m1, .int .u8 m2, .int .u8 m3]) (.int .i64 3)).run Tryd.prog w = .ok (.int .u8 m3) w := by kernel_rfl
theorem idx4 (m0 m1 m2 m3 : Int) (k : Nat) (hk : k < 4) : ∀ w : World, (Instr.index 42 (.agg #[.int .u8 m0, .int .u8 m1, .int .u8 m2, .int .u8 m3]) (.int .i64 k)).run Tryd.prog w = .ok (.int .u8 ([m0, m1, m2, m3].getD k 0)) w :=
  match k, hk with
  | 0, _ => idx_0 m0 m1 m2 m3
  | 1, _ => idx_1 m0 m1 m2 m3
  | 2, _ => idx_2 m0 m1 m2 m3
  | 3, _ => idx_3 m0 m1 m2 m3
def BoxM (w : World) (b : Nat) (m0 m1 m2 m3 : Int) : Prop := w.cell? ⟨b, 0, none⟩ = some (.int .u8 m0) ∧ w.cell? ⟨b, 1, none⟩ = some (.int .u8 m1) ∧ w.cell? ⟨b, 2, none⟩ = some (.int .u8 m2) ∧ w.cell? ⟨b, 3, none⟩ = some (.int .u8 m3)
theorem BoxM.new (w : World) (b : Nat) (hb : w.heap.size = b) (m0 m1 m2 m3 : Int) : BoxM (w.alloc (.cells #[.int .u8 m0, .int .u8 m1, .int .u8 m2, .int .u8 m3] 42)) b m0 m1 m2 m3 := by
  subst hb
  have hh : (w.alloc (.cells #[.int .u8 m0, .int .u8 m1, .int .u8 m2, .int .u8 m3] 42)).heap[w.heap.size]? = some (.cells #[.int .u8 m0, .int .u8 m1, .int .u8 m2, .int .u8 m3] 42) := by
    show (w.heap.push _)[w.heap.size]? = _
    simp
  refine ⟨?_, ?_, ?_, ?_⟩ <;> (unfold World.cell?; rw [hh]; rfl)
theorem BoxM.below {w w1 : World} {b : Nat} {m0 m1 m2 m3 : Int} (h : BoxM w b m0 m1 m2 m3) (hb : Below w.heap.size w w1) : BoxM w1 b m0 m1 m2 m3 := ⟨pw_cell_below hb h.1, pw_cell_below hb h.2.1, pw_cell_below hb h.2.2.1, pw_cell_below hb h.2.2.2⟩
set_option maxHeartbeats 4000000 in
set_option maxRecDepth 100000 in
theorem tellsLaw (g : G) (at_ m0 m1 m2 m3 : Int) (w : World) (hg : g.I) (ha : -9223372036854775808 ≤ at_ ∧ at_ ≤ 9223372036854775807) (hm : By [m0, m1, m2, m3]) (ht : Table w) :
    Calls Tryd.prog 7 #[g.agg, .int .i64 at_, .agg #[.int .u8 m0, .int .u8 m1, .int .u8 m2, .int .u8 m3]] w fun e w' => e = .returned (.bool true) ∧ Below w.heap.size w w' := by
  have HT := Lib.hid ht
  have HM := Lib.hid hm
  have VM := Lib.hid (gvalid_any g)
  have EM := Lib.hid (fun W (h : Table W) => gencode_any g W hg h)
  have TB : Hid (g.valid = true → decG (full g.enc) = (g, 0)) := Lib.hid dec_full
  have HBy : Hid (g.valid = true → By (full g.enc)) := Lib.hid fun h => By_full (by
    unfold G.enc
    rw [if_pos h]
    refine (encAll_by _).append ?_
    split
    · exact By_of _ (by simp)
    · unfold M.enc; split
      · exact encAll_by _
      · exact By_of _ (by simp))
  have HL8 := G.enc_len hg
  obtain ⟨ha0, ha1⟩ := ha
  clear ht hm hg
  obtain ⟨f, t, a, s, ⟨k, o, d, u, v⟩⟩ := g
  have VM : Hid (∀ W, Calls Tryd.prog 12 #[.agg #[.int .i64 f, .int .i64 t, .int .i64 a, .int .i64 s, .int .i64 k, .int .i64 o, .int .i64 d, .int .i64 u, .int .i64 v]] W fun e w' => e = .returned (.bool (G.valid ⟨f, t, a, s, ⟨k, o, d, u, v⟩⟩)) ∧ Below W.heap.size W w') := VM
  have EM : Hid (∀ W, Table W → Calls Tryd.prog 10 #[.agg #[.int .i64 f, .int .i64 t, .int .i64 a, .int .i64 s, .int .i64 k, .int .i64 o, .int .i64 d, .int .i64 u, .int .i64 v]] W (RetE W (G.valid ⟨f, t, a, s, ⟨k, o, d, u, v⟩⟩) (G.enc ⟨f, t, a, s, ⟨k, o, d, u, v⟩⟩))) := EM
  show Calls Tryd.prog 7 #[.agg #[.int .i64 f, .int .i64 t, .int .i64 a, .int .i64 s, .int .i64 k, .int .i64 o, .int .i64 d, .int .i64 u, .int .i64 v], .int .i64 at_, .agg #[.int .u8 m0, .int .u8 m1, .int .u8 m2, .int .u8 m3]] w _
  have HX1 : Hid (RowH ((w.alloc (.cells #[.int .i64 f, .int .i64 t, .int .i64 a, .int .i64 s, .int .i64 k, .int .i64 o, .int .i64 d, .int .i64 u, .int .i64 v] 26)).alloc (.cells #[.int .u8 m0, .int .u8 m1, .int .u8 m2, .int .u8 m3] 42)) w.heap.size [f, t, a, s, k, o, d, u, v]) := Lib.hid ((RowH.new w w.heap.size rfl [f, t, a, s, k, o, d, u, v]).alloc _)
  have HN1 : Hid (BoxM ((w.alloc (.cells #[.int .i64 f, .int .i64 t, .int .i64 a, .int .i64 s, .int .i64 k, .int .i64 o, .int .i64 d, .int .i64 u, .int .i64 v] 26)).alloc (.cells #[.int .u8 m0, .int .u8 m1, .int .u8 m2, .int .u8 m3] 42)) (w.heap.size + 1) m0 m1 m2 m3) := Lib.hid (BoxM.new _ _ (by simp) m0 m1 m2 m3)
  have HB1 := Lib.hid ((below_alloc (Below.refl w.heap.size w) (.cells #[.int .i64 f, .int .i64 t, .int .i64 a, .int .i64 s, .int .i64 k, .int .i64 o, .int .i64 d, .int .i64 u, .int .i64 v] 26)).alloc (by simp) (.cells #[.int .u8 m0, .int .u8 m1, .int .u8 m2, .int .u8 m3] 42))
  have hs1 := HB1.out.size
  have hz1 : w.heap.size + 2 ≤ ((w.alloc (.cells #[.int .i64 f, .int .i64 t, .int .i64 a, .int .i64 s, .int .i64 k, .int .i64 o, .int .i64 d, .int .i64 u, .int .i64 v] 26)).alloc (.cells #[.int .u8 m0, .int .u8 m1, .int .u8 m2, .int .u8 m3] 42)).heap.size := by simp
  have HT1 := Lib.hid (HT.out.below HB1.out)
  go_enter Tryd.func7, Tryd.ntmps7
  go_wp2_with fail
  generalize (w.alloc (.cells #[.int .i64 f, .int .i64 t, .int .i64 a, .int .i64 s, .int .i64 k, .int .i64 o, .int .i64 d, .int .i64 u, .int .i64 v] 26)).alloc (.cells #[.int .u8 m0, .int .u8 m1, .int .u8 m2, .int .u8 m3] 42) = W1 at HX1 HN1 HB1 HT1 hs1 hz1 ⊢
  refine (wakes_any _ HT1.out).mono ?_
  rintro e w2 ⟨rfl, hb⟩
  have HB2 := Lib.hid (HB1.out.trans (hb.mono hs1))
  have hs2 := HB2.out.size
  have hz2 : w.heap.size + 2 ≤ w2.heap.size := Nat.le_trans hz1 hb.size
  have HX2 := Lib.hid (HX1.out.below hb)
  have HN2 := Lib.hid (HN1.out.below hb)
  have HT2 := Lib.hid (HT.out.below HB2.out)
  have e0 := HX2.out.cell 0 (by simp)
  have m_0 := HX2.out.free 0
  have e1 := HX2.out.cell 1 (by simp)
  have m_1 := HX2.out.free 1
  have e2 := HX2.out.cell 2 (by simp)
  have m_2 := HX2.out.free 2
  have e3 := HX2.out.cell 3 (by simp)
  have m_3 := HX2.out.free 3
  have e4 := HX2.out.cell 4 (by simp)
  have m_4 := HX2.out.free 4
  have e5 := HX2.out.cell 5 (by simp)
  have m_5 := HX2.out.free 5
  have e6 := HX2.out.cell 6 (by simp)
  have m_6 := HX2.out.free 6
  have e7 := HX2.out.cell 7 (by simp)
  have m_7 := HX2.out.free 7
  have e8 := HX2.out.cell 8 (by simp)
  have m_8 := HX2.out.free 8
  simp only [List.getD_cons_zero, List.getD_cons_succ, List.getD_nil] at e0 e1 e2 e3 e4 e5 e6 e7 e8
  clear hb HX1 HN1 HB1 HT1 hs1 hz1
  go_wp2_with fail
  refine (EM.out _ HT2.out).mono ?_
  rintro e w3 ⟨A1, n1, c1, rfl, ho, hb⟩
  have HB3 := Lib.hid (HB2.out.trans (hb.mono hs2))
  have hs3 := HB3.out.size
  have hz3 : w.heap.size + 2 ≤ w3.heap.size := Nat.le_trans hz2 hb.size
  have HX3 := Lib.hid (HX2.out.below hb)
  have HN3 := Lib.hid (HN2.out.below hb)
  clear hb e0 e1 e2 e3 e4 e5 e6 e7 e8 m_0 m_1 m_2 m_3 m_4 m_5 m_6 m_7 m_8
  have e0 := HX3.out.cell 0 (by simp)
  have m_0 := HX3.out.free 0
  have e1 := HX3.out.cell 1 (by simp)
  have m_1 := HX3.out.free 1
  have e2 := HX3.out.cell 2 (by simp)
  have m_2 := HX3.out.free 2
  have e3 := HX3.out.cell 3 (by simp)
  have m_3 := HX3.out.free 3
  have e4 := HX3.out.cell 4 (by simp)
  have m_4 := HX3.out.free 4
  have e5 := HX3.out.cell 5 (by simp)
  have m_5 := HX3.out.free 5
  have e6 := HX3.out.cell 6 (by simp)
  have m_6 := HX3.out.free 6
  have e7 := HX3.out.cell 7 (by simp)
  have m_7 := HX3.out.free 7
  have e8 := HX3.out.cell 8 (by simp)
  have m_8 := HX3.out.free 8
  simp only [List.getD_cons_zero, List.getD_cons_succ, List.getD_nil] at e0 e1 e2 e3 e4 e5 e6 e7 e8
  cases vm : G.valid ⟨f, t, a, s, ⟨k, o, d, u, v⟩⟩
  · rw [vm, if_neg (by decide)] at ho
    rw [vm] at VM
    rw [if_neg (by decide)]
    clear ho vm
    go_wp2_with fail
    refine (VM.out _).mono ?_
    rintro e w4 ⟨rfl, hb⟩
    have HB4 := Lib.hid (HB3.out.trans (hb.mono hs3))
    clear hb
    go_wp2
    go_ret
    exact ⟨rfl, HB4.out⟩
  · rw [vm, if_pos rfl] at ho
    rw [if_pos rfl]
    have HTB := Lib.hid (TB.out vm)
    have HBF := Lib.hid (HBy.out vm)
    clear TB HBy vm EM VM
    have HTS0 := Lib.hid (fun ms => Turned.start (full (G.enc ⟨f, t, a, s, ⟨k, o, d, u, v⟩⟩)) HBF.out at_ ms)
    have hFL := full_len (G.enc ⟨f, t, a, s, ⟨k, o, d, u, v⟩⟩)
    have HTS : Hid (∀ cs, Turned (full (G.enc ⟨f, t, a, s, ⟨k, o, d, u, v⟩⟩)) at_ [m0, m1, m2, m3] 4 cs true → decG cs = (noG, 32)) := Lib.hid fun cs h => turned_sum HBF.out HM.out h
    have HTN : Hid (∀ cs, Turned (full (G.enc ⟨f, t, a, s, ⟨k, o, d, u, v⟩⟩)) at_ [m0, m1, m2, m3] 4 cs false → decG cs = (⟨f, t, a, s, ⟨k, o, d, u, v⟩⟩, 0)) := Lib.hid fun cs h => by rw [turned_same HBF.out rfl h]; exact HTB.out
    generalize full (G.enc ⟨f, t, a, s, ⟨k, o, d, u, v⟩⟩) = F at ho HBF HTS0 HTS HTN hFL
    have hlF := ho.len
    subst hlF
    have hFl : F.length ≤ 85 := by omega
    have hcap := ho.cap
    have HO3 := Lib.hid (ho.less hz2)
    obtain ⟨c0, c1', c2, c3⟩ := HN3.out
    clear ho hFL HTB HL8
    go_wp2
    clear c0 c1' c2 c3 e0 e1 e2 e3 e4 e5 e6 e7 e8 m_0 m_1 m_2 m_3 m_4 m_5 m_6 m_7 m_8
    go_loopw [9, 26] (fun lu li wr => ∃ (k_ : Nat) (cs : List Int) (ub : Bool), k_ ≤ 4 ∧ li = .int .i64 k_ ∧ lu = .bool ub ∧ Aside0 (Turned F at_ [m0, m1, m2, m3] k_ cs ub) ∧ Aside0 (OwB wr (w.heap.size + 2) A1 F.length c1 cs) ∧ Aside0 (Below w.heap.size w wr) ∧ Aside0 (RowH wr w.heap.size [f, t, a, s, k, o, d, u, v])) (fun _ i _ => 4 - (intOf i).toNat)
    case atStart => exact ⟨0, F, false, by omega, rfl, rfl, ⟨HTS0.out _⟩, ⟨HO3.out⟩, ⟨HB3.out⟩, ⟨HX3.out⟩⟩
    case round =>
      obtain ⟨k_, cs, ub, hk, rfl, rfl, HTu, HOr, HBr, HXr⟩ := hrel
      by_cases hlt : k_ < 4
      · have idx := idx4 m0 m1 m2 m3 k_ hlt
        have hmr := HM.out k_
        have hmr0 := hmr.1
        have hmr1 := hmr.2
        clear hmr
        by_cases hc : 0 ≤ at_ ∧ at_ < (F.length : Int) - k_
        · obtain ⟨hc0, hc1⟩ := hc
          have HT4 := Aside0.mk (HTu.out.on HBF.out hc0 hc1)
          obtain ⟨gb, rfl, hgb, hgl⟩ := HOr.out.form (by omega)
          have hat := own_at HOr.out.1 (at_ + k_) (by omega) (by omega)
          obtain ⟨hcell, hfr⟩ := hat
          generalize [m0, m1, m2, m3].getD k_ 0 = m at idx hmr0 hmr1 HT4
          have st := Aside0.mk (HOr.out.store (at_ + k_).toNat (Go.bits .xor .u8 (rd cs (at_ + k_)) m) (xr8_r _ _))
          have HXs := Aside0.mk (HXr.out.other (b' := gb) (by omega) (at_ + k_).toNat (.int .u8 (Go.bits .xor .u8 (rd cs (at_ + k_)) m)))
          have HT5 : Aside0 (Turned F at_ [m0, m1, m2, m3] (k_ + 1) (cs.set (at_ + k_).toNat (Go.bits .xor .u8 (rd cs (at_ + k_)) m)) (ub || (m != 0))) := ⟨HT4.out⟩
          clear HT4
          cases ub
          · go_wp2
            go_roundw
            case rel => exact ⟨k_ + 1, _, _, by omega, by go_num, rfl, HT5, st, ⟨HBr.out.setCell (p := ⟨gb, (at_ + k_).toNat, none⟩) (by show w.heap.size ≤ gb; omega) _⟩, HXs⟩
            case measure => simp [intOf]; omega
          · go_wp2
            go_roundw
            case rel => exact ⟨k_ + 1, _, _, by omega, by go_num, rfl, HT5, st, ⟨HBr.out.setCell (p := ⟨gb, (at_ + k_).toNat, none⟩) (by show w.heap.size ≤ gb; omega) _⟩, HXs⟩
            case measure => simp [intOf]; omega
        · have HT4 := Aside0.mk (HTu.out.off hc)
          generalize [m0, m1, m2, m3].getD k_ 0 = m at idx hmr0 hmr1
          by_cases hc0 : 0 ≤ at_
          · have hc1 : ¬ at_ < (F.length : Int) - k_ := fun h => hc ⟨hc0, h⟩
            clear hc
            go_wp2
            go_roundw
            case rel => exact ⟨k_ + 1, _, _, by omega, by go_num, rfl, HT4, HOr, HBr, HXr⟩
            case measure => simp [intOf]; omega
          · clear hc
            go_wp2
            go_roundw
            case rel => exact ⟨k_ + 1, _, _, by omega, by go_num, rfl, HT4, HOr, HBr, HXr⟩
            case measure => simp [intOf]; omega
      · obtain rfl : k_ = 4 := by omega
        have HTr := Lib.hid (HT.out.below HBr.out)
        have HD := Lib.hid (gdecode_any A1 F.length c1 cs wr HOr.out.rd hcap HTr.out)
        have HBR := Lib.hid HBr.out
        have HXR := Lib.hid HXr.out
        cases ub
        · have e := HTN.out cs HTu.out
          rw [e] at HD
          have HD : Hid (Calls Tryd.prog 19 #[.slice A1 F.length c1] wr fun e w' => e = .returned (.tuple #[.agg #[.int .i64 f, .int .i64 t, .int .i64 a, .int .i64 s, .int .i64 k, .int .i64 o, .int .i64 d, .int .i64 u, .int .i64 v], .int .i64 0]) ∧ Below wr.heap.size wr w') := HD
          clear e
          go_wp2_with fail
          refine HD.out.mono ?_
          rintro e w5 ⟨rfl, hb⟩
          have HB5 := Lib.hid ((HBR.out.trans (hb.mono HBR.out.size)).alloc (Nat.le_trans HBR.out.size hb.size) (.cells #[.int .i64 f, .int .i64 t, .int .i64 a, .int .i64 s, .int .i64 k, .int .i64 o, .int .i64 d, .int .i64 u, .int .i64 v] 26))
          have HX5 := Lib.hid (HXR.out.below hb)
          have hlt5 := HX5.out.lt
          clear hb
          have e0 := HX5.out.cell 0 (by simp)
          have m_0 := HX5.out.free 0
          have e1 := HX5.out.cell 1 (by simp)
          have m_1 := HX5.out.free 1
          have e2 := HX5.out.cell 2 (by simp)
          have m_2 := HX5.out.free 2
          have e3 := HX5.out.cell 3 (by simp)
          have m_3 := HX5.out.free 3
          have e4 := HX5.out.cell 4 (by simp)
          have m_4 := HX5.out.free 4
          have e5 := HX5.out.cell 5 (by simp)
          have m_5 := HX5.out.free 5
          have e6 := HX5.out.cell 6 (by simp)
          have m_6 := HX5.out.free 6
          have e7 := HX5.out.cell 7 (by simp)
          have m_7 := HX5.out.free 7
          have e8 := HX5.out.cell 8 (by simp)
          have m_8 := HX5.out.free 8
          simp only [List.getD_cons_zero, List.getD_cons_succ, List.getD_nil] at e0 e1 e2 e3 e4 e5 e6 e7 e8
          go_wp2
          go_ret
          exact ⟨rfl, HB5.out⟩
        · have e := HTS.out cs HTu.out
          rw [e] at HD
          have HD : Hid (Calls Tryd.prog 19 #[.slice A1 F.length c1] wr fun e w' => e = .returned (.tuple #[.agg #[.int .i64 0, .int .i64 0, .int .i64 0, .int .i64 0, .int .i64 0, .int .i64 0, .int .i64 0, .int .i64 0, .int .i64 0], .int .i64 32]) ∧ Below wr.heap.size wr w') := HD
          clear e
          go_wp2_with fail
          refine HD.out.mono ?_
          rintro e w5 ⟨rfl, hb⟩
          have HB5 := Lib.hid ((HBR.out.trans (hb.mono HBR.out.size)).alloc (Nat.le_trans HBR.out.size hb.size) (.cells #[.int .i64 0, .int .i64 0, .int .i64 0, .int .i64 0, .int .i64 0, .int .i64 0, .int .i64 0, .int .i64 0, .int .i64 0] 26))
          clear hb
          go_wp2
          go_ret
          exact ⟨rfl, HB5.out⟩
end Go.Proofs.YtobkcedmjeidfaaDoor.graml5
