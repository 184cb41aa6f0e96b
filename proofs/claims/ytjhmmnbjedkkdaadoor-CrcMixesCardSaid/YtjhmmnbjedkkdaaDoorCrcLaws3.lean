/- The walk of the law CrcMixes. -/
import Derived.Test.YtjhmmnbjedkkdaaDoorCrcWalk2
import Derived.Test.YtjhmmnbjedkkdaaDoorCrcPure2
import Derived.Outline
import Derived.WalkSpells
import Derived.WalkLawsBesides
import Derived.Deep.QuietTactic
import Derived.BigQuiet
import Derived.Deep.DeepCutAuto
import Derived.Deep.CutBlock
set_option linter.unusedVariables false
set_option linter.unusedSimpArgs false
namespace Go.Proofs.YtjhmmnbjedkkdaaDoor.crcl
open Go.RowKit Go.Proofs.YtjhmmnbjedkkdaaDoorW.PrintWords Go.Proofs.YtjhmmnbjedkkdaaDoor.base Go.Proofs.YtjhmmnbjedkkdaaDoor.crcp Go.Proofs.YtjhmmnbjedkkdaaDoor.crcw

theorem infoB : (Tryd.prog.info? 5).map (fun i => (i.zero, i.size, i.bytes)) = some (some (.int .u8 0), 1, 1) := by kernel_rfl

structure Mixed (xs ys zs : List Int) (m k : Nat) (ms : List Int) : Prop where
  len : ms.length = m
  at_ : ∀ j : Nat, j < k → ms.getD j 0 = xr8 (xr8 (xs.getD j 0) (ys.getD j 0)) (zs.getD j 0)
theorem Mixed.start (xs ys zs : List Int) (m : Nat) : Mixed xs ys zs m 0 (List.replicate m 0) := ⟨by simp, fun j hj => absurd hj (by omega)⟩
theorem Mixed.on {xs ys zs : List Int} {m k : Nat} {ms : List Int} (h : Mixed xs ys zs m k ms) (hk : k < m) : Mixed xs ys zs m (k + 1) (ms.set k (xr8 (xr8 (xs.getD k 0) (ys.getD k 0)) (zs.getD k 0))) := by
  refine ⟨by rw [List.length_set, h.len], fun j hj => ?_⟩
  rcases Nat.lt_or_ge j m with c | c
  · rw [getD_set _ _ _ _ (by rw [h.len]; exact c)]
    by_cases e : k = j
    · subst e; rw [if_pos rfl]
    · rw [if_neg e]; exact h.at_ j (by omega)
  · omega
theorem Mixed.fin {xs ys zs : List Int} {m : Nat} {ms : List Int} (h : Mixed xs ys zs m m ms) : ∀ j : Nat, j < m → ms.getD j 0 = xr8 (xr8 ((xs.take m).getD j 0) ((ys.take m).getD j 0)) ((zs.take m).getD j 0) := by
  intro j hj
  rw [h.at_ j hj]
  simp [List.getD_eq_getElem?_getD, List.getElem?_take, hj]
theorem Mixed.by_ {xs ys zs : List Int} {m : Nat} {ms : List Int} (h : Mixed xs ys zs m m ms) : By ms := by
  intro j
  rcases Nat.lt_or_ge j m with c | c
  · rw [h.at_ j c]; exact xr8_r _ _
  · rw [List.getD_eq_getElem?_getD, List.getElem?_eq_none (by rw [h.len]; exact c)]; exact ⟨by decide, by decide⟩

set_option maxHeartbeats 800000 in
theorem mixesLaw (A : Option Addr) (n c : Nat) (xs : List Int) (A' : Option Addr) (n' c' : Nat) (ys : List Int) (A'' : Option Addr) (n'' c'' : Nat) (zs : List Int) (w : World)
    (hx : RdB w A n xs) (hxc : n ≤ c) (hxz : n * 1 ≤ 140737488351232) (hy : RdB w A' n' ys) (hyc : n' ≤ c') (hyz : n' * 1 ≤ 140737488351232) (hz : RdB w A'' n'' zs) (hzc : n'' ≤ c'') (hzz : n'' * 1 ≤ 140737488351232) (ht : Table w) :
    Calls Tryd.prog 5 #[.slice A n c, .slice A' n' c', .slice A'' n'' c''] w fun e w' => e = .returned (.bool true) ∧ Below w.heap.size w w' := by
  have HX := Lib.hid hx
  have HY := Lib.hid hy
  have HZ := Lib.hid hz
  have HT := Lib.hid ht
  have hn : n ≤ 140737488351232 := by omega
  have hn' : n' ≤ 140737488351232 := by omega
  have hn'' : n'' ≤ 140737488351232 := by omega
  clear hx hy hz ht hxz hyz hzz
  go_enter Tryd.func5, Tryd.ntmps5
  go_wp2_with fail
  refine (wakes_any _ HT.out).mono ?_
  rintro e w1 ⟨rfl, hb⟩
  have HB1 := Lib.hid hb
  clear hb
  go_upto_region 3 with (fail)
  go_cut [7] (fun v wc => ∃ m : Nat, v = .int .i64 m ∧ Aside0 (m = min (min n n') n'') ∧ wc = w1)
  case first =>
    go_wp2
    all_goals go_meet
    all_goals (case rel => exact ⟨_, rfl, ⟨by omega⟩, rfl⟩)
  case rest =>
    obtain ⟨m, rfl, HM, rfl⟩ := hcut
    have hm : m ≤ n ∧ m ≤ n' ∧ m ≤ n'' := by have := HM.out; omega
    obtain ⟨hm0, hm1, hm2⟩ := hm
    have hmk := print_make (P := Tryd.prog) 23 5 .u8 1 Tryd.underlying23 infoB (by decide) m (by omega)
    have HB2 := Lib.hid (HB1.out.alloc HB1.out.size (.cells (madeCells #[.int .u8 0] m) 5))
    have HO := Lib.hid (own_made wc w.heap.size 5 .u8 m HB1.out.size (by omega))
    have hgs : w.heap.size ≤ wc.heap.size := HB1.out.size
    go_wp2
    go_loopw [23] (fun i wr => ∃ (k : Nat) (ms : List Int), k ≤ m ∧ i = .int .i64 k ∧ Aside0 (Mixed xs ys zs m k ms) ∧ Aside0 (wr.ownsRow w.heap.size 5 1 (.slice (some ⟨wc.heap.size, 0, none⟩) m m) m (nums .u8 ms)) ∧ Aside0 (Below w.heap.size w wr)) (fun i _ => m - (intOf i).toNat)
    case atStart => exact ⟨0, _, by omega, rfl, ⟨Mixed.start xs ys zs m⟩, ⟨HO.out⟩, ⟨HB2.out⟩⟩
    case round =>
      obtain ⟨k, ms, hk, rfl, HMx, HO3, HB3⟩ := hrel
      by_cases hlt : k < m
      · obtain ⟨ad, rfl, hcx⟩ := (HX.out.below HB3.out).at_ k (by omega)
        obtain ⟨ad', rfl, hcy⟩ := (HY.out.below HB3.out).at_ k (by omega)
        obtain ⟨ad'', rfl, hcz⟩ := (HZ.out.below HB3.out).at_ k (by omega)
        obtain ⟨hcell, hfr⟩ := own_at HO3.out k (by omega) (by omega)
        have HM4 := Aside0.mk (HMx.out.on hlt)
        have st := Aside0.mk (own_store HO3.out k (xr8 (xr8 (xs.getD k 0) (ys.getD k 0)) (zs.getD k 0)))
        rw [show ((k : Int)).toNat = k from by omega] at hcell hfr st
        generalize xs.getD k 0 = x at hcx HM4 st
        generalize ys.getD k 0 = y at hcy HM4 st
        generalize zs.getD k 0 = z at hcz HM4 st
        go_wp2
        go_region
        all_goals
          go_wp2
          go_roundw
          case rel => exact ⟨k + 1, _, by omega, by go_num, HM4, ⟨st.out.1⟩, ⟨(HB3.out.setCell hgs _).drew⟩⟩
          case measure => simp [intOf]; omega
      · obtain rfl : k = m := by omega
        have hfin := mixes (xs.take k) (ys.take k) (zs.take k) ms k (HX.out.2.take k) (HY.out.2.take k) (HZ.out.2.take k) (by rw [List.length_take, HX.out.len]; omega) (by rw [List.length_take, HY.out.len]; omega) (by rw [List.length_take, HZ.out.len]; omega) HMx.out.len (HMx.out.fin)
        obtain ⟨A2, c2, he, hrd⟩ := own_reads HO3.out
        injection he with he1 _ he2
        subst he1 he2
        have hX : ∀ q, RdB (wr.drewN q) A k (xs.take k) := fun q => ((HX.out.below HB3.out).take k hm0).drawn q
        have hY : ∀ q, RdB (wr.drewN q) A' k (ys.take k) := fun q => ((HY.out.below HB3.out).take k hm1).drawn q
        have hZ : ∀ q, RdB (wr.drewN q) A'' k (zs.take k) := fun q => ((HZ.out.below HB3.out).take k hm2).drawn q
        have hM : ∀ q, RdB (wr.drewN q) (some ⟨wc.heap.size, 0, none⟩) k ms := fun q => RdB.drawn ⟨hrd, HMx.out.by_⟩ q
        have hT : ∀ q, Table (wr.drewN q) := fun q => (HT.out.below HB3.out).below (pw_below_drewN (Below.refl _ _) q)
        have HXq := Lib.hid hX
        have HYq := Lib.hid hY
        have HZq := Lib.hid hZ
        have HMq := Lib.hid hM
        have HTq := Lib.hid hT
        clear hX hY hZ hM hT hrd
        unfold xr at hfin
        go_wp2
        go_quiet ((go_at_call 13; exact Calls.quiet_of_same ((sum_any _ _ _ _ _ (by first | exact HXq.out _ | exact HYq.out _ | exact HZq.out _ | exact HMq.out _) (HTq.out _)).mono fun _ _ h => ⟨h.1, h.2.symm⟩)))
        go_wp2
        go_ret
        exact ⟨rfl, pw_below_drewN HB3.out _⟩
end Go.Proofs.YtjhmmnbjedkkdaaDoor.crcl
