/- The walk of the law CrcTells. -/
import Derived.Test.YtjhmmnbjedkkdaaDoorCrcWalk2
import Derived.Test.YtjhmmnbjedkkdaaDoorCrcPure2
import Derived.Outline
import Derived.WalkSpells
set_option linter.unusedVariables false
set_option linter.unusedSimpArgs false
namespace Go.Proofs.YtjhmmnbjedkkdaaDoor.crcl
open Go.RowKit Go.Proofs.YtjhmmnbjedkkdaaDoorW.PrintWords Go.Proofs.YtjhmmnbjedkkdaaDoor.base Go.Proofs.YtjhmmnbjedkkdaaDoor.crcp Go.Proofs.YtjhmmnbjedkkdaaDoor.crcw

theorem infoByte : (Tryd.prog.info? 5).map (fun i => (i.zero, i.size, i.bytes)) = some (some (.int .u8 0), 1, 1) := by kernel_rfl

theorem cellAt {wb w2 : World} {l : List Value} {B : Nat} (h : ∀ (i : Nat) (v : Value), l[i]? = some v → wb.cell? ⟨B, i, none⟩ = some v) (hs : B + 1 = wb.heap.size) (hb : Below wb.heap.size wb w2) (i : Nat) (hi : i < 4) (v : Value) (hv : l[i]? = some v) : w2.cell? ⟨B, i, none⟩ = some v := by
  rw [hb.cell (p := ⟨B, i, none⟩) (by show B < _; omega)]
  exact h i v hv

theorem cells4 {wb w2 : World} {a b c d : Value} {B : Nat} (h : ∀ (i : Nat) (v : Value), [a, b, c, d][i]? = some v → wb.cell? ⟨B, i, none⟩ = some v) (hs : B + 1 = wb.heap.size) (hb : Below wb.heap.size wb w2) :
    w2.cell? ⟨B, 0, none⟩ = some a ∧ w2.cell? ⟨B, 1, none⟩ = some b ∧ w2.cell? ⟨B, 2, none⟩ = some c ∧ w2.cell? ⟨B, 3, none⟩ = some d :=
  ⟨cellAt h hs hb 0 (by decide) _ rfl, cellAt h hs hb 1 (by decide) _ rfl, cellAt h hs hb 2 (by decide) _ rfl, cellAt h hs hb 3 (by decide) _ rfl⟩
theorem idx_0 (m0 m1 m2 m3 : Int) (w : World) : (Instr.index 28 (.agg #[.int .u8 m0, .int .u8 m1, .int .u8 m2, .int .u8 m3]) (.int .i64 0)).run Tryd.prog w = .ok (.int .u8 m0) w := by kernel_rfl
theorem idx_1 (m0 m1 m2 m3 : Int) (w : World) : (Instr.index 28 (.agg #[.int .u8 m0, .int .u8 m1, .int .u8 m2, .int .u8 m3]) (.int .i64 1)).run Tryd.prog w = .ok (.int .u8 m1) w := by kernel_rfl
theorem idx_2 (m0 m1 m2 m3 : Int) (w : World) : (Instr.index 28 (.agg #[.int .u8 m0, .int .u8 m1, .int .u8 m2, .int .u8 m3]) (.int .i64 2)).run Tryd.prog w = .ok (.int .u8 m2) w := by kernel_rfl
theorem idx_3 (m0 m1 m2 m3 : Int) (w : World) : (Instr.index 28 (.agg #[.int .u8 m0, .int .u8 m1, .int .u8 m2, .int .u8 m3]) (.int .i64 3)).run Tryd.prog w = .ok (.int .u8 m3) w := by kernel_rfl
theorem idx4 (m0 m1 m2 m3 : Int) (k : Nat) (hk : k < 4) : ∀ w : World, (Instr.index 28 (.agg #[.int .u8 m0, .int .u8 m1, .int .u8 m2, .int .u8 m3]) (.int .i64 k)).run Tryd.prog w = .ok (.int .u8 ([m0, m1, m2, m3].getD k 0)) w :=
  match k, hk with
  | 0, _ => idx_0 m0 m1 m2 m3
  | 1, _ => idx_1 m0 m1 m2 m3
  | 2, _ => idx_2 m0 m1 m2 m3
  | 3, _ => idx_3 m0 m1 m2 m3
set_option maxHeartbeats 800000 in
theorem tellsLaw (A : Option Addr) (n c : Nat) (xs : List Int) (at_ m0 m1 m2 m3 : Int) (w : World) (hr : RdB w A n xs) (_ : n ≤ c) (hz : n * 1 ≤ 140737488351232)
    (ha : -9223372036854775808 ≤ at_ ∧ at_ ≤ 9223372036854775807) (hm : By [m0, m1, m2, m3]) (ht : Table w) :
    Calls Tryd.prog 4 #[.slice A n c, .int .i64 at_, .agg #[.int .u8 m0, .int .u8 m1, .int .u8 m2, .int .u8 m3]] w fun e w' => e = .returned (.bool true) ∧ Below w.heap.size w w' := by
  have HR := Lib.hid hr
  have HT := Lib.hid ht
  have HM := Lib.hid hm
  have hn : n ≤ 140737488351232 := by omega
  obtain ⟨ha0, ha1⟩ := ha
  clear hr ht hm hz
  obtain ⟨wb, hwb⟩ : ∃ wb, w.alloc (.cells #[.int .u8 m0, .int .u8 m1, .int .u8 m2, .int .u8 m3] 28) = wb := ⟨_, rfl⟩
  have hsz : w.heap.size + 1 = wb.heap.size := by rw [← hwb]; simp
  have HBx : Hid (Below w.heap.size w wb) := Lib.hid (by rw [← hwb]; exact below_alloc (Below.refl w.heap.size w) _)
  have HC : Hid (∀ i v, [Value.int .u8 m0, .int .u8 m1, .int .u8 m2, .int .u8 m3][i]? = some v → wb.cell? ⟨w.heap.size, i, none⟩ = some v) := Lib.hid (by
    intro i v hv
    have hh : wb.heap[w.heap.size]? = some (.cells #[.int .u8 m0, .int .u8 m1, .int .u8 m2, .int .u8 m3] 28) := by
      rw [← hwb]
      show (w.heap.push _)[w.heap.size]? = _
      simp
    unfold World.cell?
    rw [hh]
    simpa using hv)
  have HT1 := Lib.hid (HT.out.below HBx.out)
  have HSZ := Lib.hid hsz
  have HWB := Lib.hid hwb
  clear hsz hwb
  go_enter Tryd.func4, Tryd.ntmps4
  go_wp2_with fail
  rw [HWB.out]
  refine (wakes_any _ HT1.out).mono ?_
  rintro e w1 ⟨rfl, hb⟩
  have HB1 := Lib.hid hb
  clear hb
  go_wp2_with (at_builtin; go_must (refine print_append_row (w0 := wb) wb.heap.size rfl (.tmp 13) (.tmp 14) 23 5 .u8 1 rfl Tryd.underlying23 infoByte (by decide) (.slice (some ⟨w1.heap.size, 0, none⟩) 0 0) [] xs A n c rfl rfl ?aO ?aR ?aB ?aS ?aL ?_; (case aO => exact own_lit w1 wb.heap.size _ _ [] HB1.out.size (by simp)); (case aR => exact (HR.out.below ((HBx.out.trans (HB1.out.mono (by have := HSZ.out; omega))).alloc (by have := HB1.out.size; have := HSZ.out; omega) _)).1); (case aB => exact HB1.out.alloc HB1.out.size _); (case aS => have := HB1.out.size; simp; omega); (case aL => simp; omega); intro v1 w2 ho hb hg hat; rw [List.nil_append, HR.out.len] at ho; obtain ⟨A1, c1, rfl⟩ := own_slice ho; have HO := Lib.hid ho; have HB2 := Lib.hid hb; clear ho hb hg hat; obtain ⟨c0, c1', c2, c3⟩ := cells4 HC.out HSZ.out HB2.out))
  clear c0 c1' c2 c3
  go_loopw [8, 17] (fun u i wr => ∃ (k : Nat) (cs : List Int) (ub : Bool), k ≤ 4 ∧ i = .int .i64 k ∧ u = .bool ub ∧ Aside0 (Turned xs at_ [m0, m1, m2, m3] k cs ub) ∧ Aside0 (wr.ownsRow wb.heap.size 5 1 (.slice A1 n c1) n (nums .u8 cs)) ∧ Aside0 (Below wb.heap.size wb wr)) (fun _ i _ => 4 - (intOf i).toNat)
  case atStart => exact ⟨0, xs, false, by omega, rfl, rfl, ⟨Turned.start xs HR.out.2 _ _⟩, ⟨HO.out⟩, ⟨HB2.out⟩⟩
  case round =>
    obtain ⟨k, cs, ub, hk, rfl, rfl, HTu, HO3, HB3⟩ := hrel
    by_cases hlt : k < 4
    · have idx := idx4 m0 m1 m2 m3 k hlt
      have hmr := HM.out k
      have hmr0 := hmr.1
      have hmr1 := hmr.2
      clear hmr
      by_cases hc : 0 ≤ at_ ∧ at_ < (xs.length : Int) - k
      · obtain ⟨hc0, hc1⟩ := hc
        rw [HR.out.len] at hc1
        have HT4 := Aside0.mk (HTu.out.on HR.out.2 hc0 (by rw [HR.out.len]; exact hc1))
        obtain ⟨g, cap, hv, hgb, hgl⟩ := HO3.out.form (by omega)
        injection hv with hv1 hv2 hv3
        subst hv1 hv3
        have hat := own_at HO3.out (at_ + k) (by omega) (by omega)
        obtain ⟨hcell, hfr⟩ := hat
        generalize [m0, m1, m2, m3].getD k 0 = m at idx hmr0 hmr1 HT4
        have st := Aside0.mk (own_store HO3.out (at_ + k) (Go.bits .xor .u8 (rd cs (at_ + k)) m))
        have HT5 : Aside0 (Turned xs at_ [m0, m1, m2, m3] (k + 1) (cs.set (at_ + k).toNat (Go.bits .xor .u8 (rd cs (at_ + k)) m)) (ub || (m != 0))) := ⟨HT4.out⟩
        clear HT4
        cases ub
        · go_wp2
          go_roundw
          case rel => exact ⟨k + 1, _, _, by omega, by go_num, rfl, HT5, ⟨st.out.1⟩, ⟨HB3.out.setCell hgb _⟩⟩
          case measure => simp [intOf]; omega
        · go_wp2
          go_roundw
          case rel => exact ⟨k + 1, _, _, by omega, by go_num, rfl, HT5, ⟨st.out.1⟩, ⟨HB3.out.setCell hgb _⟩⟩
          case measure => simp [intOf]; omega
      · have HT4 := Aside0.mk (HTu.out.off hc)
        rw [HR.out.len] at hc
        generalize [m0, m1, m2, m3].getD k 0 = m at idx hmr0 hmr1
        by_cases hc0 : 0 ≤ at_
        · have hc1 : ¬ at_ < (n : Int) - k := fun h => hc ⟨hc0, h⟩
          clear hc
          go_wp2
          go_roundw
          case rel => exact ⟨k + 1, _, _, by omega, by go_num, rfl, HT4, HO3, HB3⟩
          case measure => simp [intOf]; omega
        · clear hc
          go_wp2
          go_roundw
          case rel => exact ⟨k + 1, _, _, by omega, by go_num, rfl, HT4, HO3, HB3⟩
          case measure => simp [intOf]; omega
    · obtain rfl : k = 4 := by omega
      have hby : By cs := HTu.out.by_ HR.out.2
      have hfin := tells xs cs at_ _ ub HR.out.2 HM.out HTu.out
      obtain ⟨A2, c2, he, hrd⟩ := own_reads HO3.out
      injection he with he1 _ he2
      subst he1 he2
      have HR2 : Hid (RdB wr A1 n cs) := Lib.hid ⟨hrd, hby⟩
      have HBw := Lib.hid (HBx.out.trans (HB3.out.mono (by have := HSZ.out; omega)))
      have HR3 := Lib.hid (HR.out.below HBw.out)
      have HT3 := Lib.hid (HT.out.below HBw.out)
      clear hrd hby
      go_wp2_with fail
      refine (sum_any _ _ _ _ _ HR3.out HT3.out).mono ?_
      rintro e w' ⟨rfl, rfl⟩
      go_wp2_with fail
      refine (sum_any _ _ _ _ _ HR2.out HT3.out).mono ?_
      rintro e w' ⟨rfl, rfl⟩
      go_wp2
      go_ret
      exact ⟨rfl, HBw.out⟩
end Go.Proofs.YtjhmmnbjedkkdaaDoor.crcl
