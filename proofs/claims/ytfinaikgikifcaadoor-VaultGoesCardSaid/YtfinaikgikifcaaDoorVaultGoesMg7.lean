/- What the vault's Checkpoint computes; and what is proved besides: see the words ahead of each part. -/
import Derived.BigRegion
import Derived.Lib.SlBytesConst
import Derived.Test.YtfinaikgikifcaaDoorWSized
import Derived.ProofKit
import Derived.OpenShut
import Derived.Carry
import Derived.Deep.Matrix
import Derived.Lib.SmallJoins
import Derived.Deep.Slices
import Derived.SizedLaws
import Derived.Test.YtfinaikgikifcaaDoorVaultGoesMg6
set_option linter.unusedVariables false
set_option linter.unusedSimpArgs false
/- What the vault's Checkpoint computes. -/
namespace Go.Proofs.YtfinaikgikifcaaDoor.vaulta
open Go.RowKit Go.Shelf Go.Proofs.YtfinaikgikifcaaDoorW.PrintWords Go.Proofs.YtfinaikgikifcaaDoor.base Go.Proofs.YtfinaikgikifcaaDoor.mem Go.Proofs.YtfinaikgikifcaaDoor.keep Go.Proofs.YtfinaikgikifcaaDoor.crcp Go.Proofs.YtfinaikgikifcaaDoor.crcw Go.Proofs.YtfinaikgikifcaaDoor.samew Go.Proofs.YtfinaikgikifcaaDoor.framep Go.Proofs.YtfinaikgikifcaaDoor.framew Go.Proofs.YtfinaikgikifcaaDoor.frameit Go.Proofs.YtfinaikgikifcaaDoor.framem Go.Proofs.YtfinaikgikifcaaDoor.framel Go.Proofs.YtfinaikgikifcaaDoor.diskp Go.Proofs.YtfinaikgikifcaaDoor.diskr Go.Proofs.YtfinaikgikifcaaDoor.diskw Go.Proofs.YtfinaikgikifcaaDoor.vaultp Go.Proofs.YtfinaikgikifcaaDoor.vaultw

def vckR (d : D) (v : Vn) (s : List Int) : D × Vn × Int :=
  if 1048576 < 8 + s.length then (d, v, 3)
  else if 4611686018427387904 ≤ v.g then (d, v, 23)
  else if v.s ≠ 0 then (d, v, v.s)
  else if (beginR d (1 - v.f) (firstB (v.g + 1) s)).2 ≠ 0 then ((beginR d (1 - v.f) (firstB (v.g + 1) s)).1, ⟨v.f, v.g, v.n, (beginR d (1 - v.f) (firstB (v.g + 1) s)).2⟩, (beginR d (1 - v.f) (firstB (v.g + 1) s)).2)
  else if (cutR (beginR d (1 - v.f) (firstB (v.g + 1) s)).1 (1 - (1 - v.f)) 0).2 ≠ 0 then ((cutR (beginR d (1 - v.f) (firstB (v.g + 1) s)).1 (1 - (1 - v.f)) 0).1, ⟨1 - v.f, v.g + 1, 0, (cutR (beginR d (1 - v.f) (firstB (v.g + 1) s)).1 (1 - (1 - v.f)) 0).2⟩, (cutR (beginR d (1 - v.f) (firstB (v.g + 1) s)).1 (1 - (1 - v.f)) 0).2)
  else ((cutR (beginR d (1 - v.f) (firstB (v.g + 1) s)).1 (1 - (1 - v.f)) 0).1, ⟨1 - v.f, v.g + 1, 0, v.s⟩, 0)
theorem firstR_ok {g : Int} {s : List Int} (h : ¬ 1048576 < 8 + s.length) : firstR g s = (firstB g s, 0) := if_pos (by omega)
theorem firstR_long {g : Int} {s : List Int} (h : 1048576 < 8 + s.length) : firstR g s = ([], 3) := if_neg (by omega)
set_option maxHeartbeats 2000000 in
set_option maxRecDepth 100000 in
theorem checkpoint_any {w : World} {base p q : Nat} {cs : Nat → Sl} {d : D} {v : Vn} {S N : Nat} (h : DAt w base p cs d) (hk : Ok d S N) (hv : VB w q p v.f v.g v.n v.s) (hq : base ≤ q) (hnq : ¬ Ft p cs q) (hf : v.f = 0 ∨ v.f = 1) (hg : 0 ≤ v.g ∧ v.g ≤ 4611686018427387904) (A : Option Addr) (n c : Nat) (s : List Int) (hr : RdB w A n s) (hn : n + 8 ≤ 140737488355328) (hS : S + 1048584 ≤ 70368744177664) (hN : N + 3 ≤ 4611686018427387904) (ht : Table w) :
    Calls Tryd.prog 19 #[.pointer (some ⟨q, 0, none⟩), .slice A n c] w (RetV w base p cs q (vckR d v s)) := by
  have hl := hr.len
  have HF := Lib.hid (first_any (v.g + 1) (by omega) A n c s w hr hn ht)
  have H := Lib.hid h
  have HK := Lib.hid hk
  have HV := Lib.hid hv
  have HNQ := Lib.hid hnq
  have hbs := h.base_le
  have hql := hv.lt
  obtain ⟨e0, e1, e2, e3, e4⟩ := hv.cells
  clear h hk hv hr ht hnq e3
  by_cases hlong : 1048576 < 8 + s.length
  · have HA : Hid (vckR d v s = (d, v, 3)) := Lib.hid (if_pos hlong)
    rw [firstR_long hlong] at HF
    go_enter Tryd.func19, Tryd.ntmps19
    go_wp2_with fail
    refine HF.out.mono ?_
    rintro e w2 ⟨A2, n2, c2, rfl, ho, hb⟩
    have H2 := Lib.hid (H.out.below hb)
    have HV2 := Lib.hid (HV.out.below hb)
    have S2 := Lib.hid (DStep.below (p := p) (cs := cs) hb hbs)
    clear ho hb
    go_wp2
    go_ret
    rw [HA.out]
    exact ⟨rfl, cs, H2.out, VStep.of S2.out, HV2.out, HNQ.out⟩
  · have HA : Hid (vckR d v s = _) := Lib.hid (if_neg hlong)
    rw [firstR_ok hlong] at HF
    have HFB : Hid ((firstB (v.g + 1) s).length = 8 + (8 + n)) := Lib.hid (by unfold firstB; rw [fenc_len, List.length_append, le8_len]; omega)
    go_enter Tryd.func19, Tryd.ntmps19
    go_wp2_with fail
    refine HF.out.mono ?_
    rintro e w2 ⟨A2, n2, c2, rfl, ho, hb⟩
    have HO2 := Lib.hid ho
    have hl2 := ho.len
    rw [HFB.out] at hl2
    have hs2 := hb.size
    have H2 := Lib.hid (H.out.below hb)
    have HV2 := Lib.hid (HV.out.below hb)
    have S2 := Lib.hid (DStep.below (p := p) (cs := cs) hb hbs)
    clear ho hb e0 e1 e2 e4
    obtain ⟨e0, e1, e2, e3, e4⟩ := HV2.out.cells
    by_cases hgb : 4611686018427387904 ≤ v.g
    · have HA := Lib.hid (HA.out.trans (if_pos hgb))
      go_wp2
      go_ret
      rw [HA.out]
      exact ⟨rfl, cs, H2.out, VStep.of S2.out, HV2.out, HNQ.out⟩
    have HA := Lib.hid (HA.out.trans (if_neg hgb))
    by_cases hsk : v.s = 0
    · have HA := Lib.hid (HA.out.trans (if_neg (fun h => h hsk)))
      have HSK := Lib.hid hsk
      rw [hsk] at e4
      clear hsk e3
      have hfb : 0 ≤ v.f ∧ v.f ≤ 1 := by omega
      go_wp2_with fail
      go_still_tail 10, (by kernel_rfl)
      have H3 := Lib.hid H2.out.drewd
      have S3 := Lib.hid S2.out.drewd
      have HV3 := Lib.hid (HV2.out.below (Below.refl _ w2).drew)
      have HO3 := Lib.hid (HO2.out.below (Below.refl _ w2).drew)
      change wpList _ _ _ _ _ w2.drew
      generalize w2.drew = w3 at H3 S3 HV3 HO3 ⊢
      clear e0 e1 e2 e4
      have HB := Lib.hid (begin_any H3.out HK.out (1 - v.f) A2 n2 c2 (firstB (v.g + 1) s) HO3.out.rd (by omega) (by omega))
      have hfbl := HFB.out
      have HKB := Lib.hid ((Ok.begin_ HK.out (1 - v.f) (firstB (v.g + 1) s)).fit (by omega) (by omega))
      by_cases hb0 : (beginR d (1 - v.f) (firstB (v.g + 1) s)).2 = 0
      · have HA := Lib.hid (HA.out.trans (if_neg (fun h => h hb0)))
        rw [hb0] at HB
        generalize (beginR d (1 - v.f) (firstB (v.g + 1) s)).1 = d1 at HB HA HKB
        clear hb0
        go_wp2_with fail
        refine HB.out.mono ?_
        rintro e w4 ⟨rfl, cs4, h4, s4⟩
        have S4 := Lib.hid (S3.out.trans s4)
        have H4 := Lib.hid h4
        have HV4 := Lib.hid (HV3.out.kept s4.keep HNQ.out)
        have HNQ4 : Hid (¬ Ft p cs4 q) := Lib.hid fun h => by
          rcases S4.out.foot q h with h | h
          · exact HNQ.out h
          · omega
        have hs4 := S4.out.keep.1
        clear h4 s4
        obtain ⟨e0, e1, e2, e3, e4⟩ := HV4.out.cells
        have f1 := HV4.out.free 1
        have f2 := HV4.out.free 2
        have f3 := HV4.out.free 3
        go_upto_region 13 with fail
        go_cut [] from 57 to 76 (fun wx => wx = (((w4.setCell ⟨q, 1, none⟩ (.int .i64 (1 - v.f))).setCell ⟨q, 2, none⟩ (.int .i64 (v.g + 1))).setCell ⟨q, 3, none⟩ (.int .i64 0)).drew)
        case first =>
          go_region
          all_goals go_wp2_with fail
          all_goals go_meet
          all_goals (case rel => rfl)
        case rest =>
          have SC : Hid (VStep w base p cs q wc cs4) := Lib.hid (by
            rw [hcut]
            exact ((((VStep.set S4.out hq 1 _).put hq 2 _).put hq 3 _)).drew)
          have HVC : Hid (VB wc q p (1 - v.f) (v.g + 1) 0 v.s) := Lib.hid ⟨by
            rw [hcut]
            have h1 : VB (w4.setCell ⟨q, 1, none⟩ (.int .i64 (1 - v.f))) q p (1 - v.f) v.g v.n v.s := ⟨VB.put HV4.out 1 _⟩
            have h2 : VB ((w4.setCell ⟨q, 1, none⟩ (.int .i64 (1 - v.f))).setCell ⟨q, 2, none⟩ (.int .i64 (v.g + 1))) q p (1 - v.f) (v.g + 1) v.n v.s := ⟨VB.put h1 2 _⟩
            exact VB.put h2 3 (.int .i64 0)⟩
          have HC : Hid (DAt wc base p cs4 d1) := Lib.hid (by
            rw [hcut]
            exact (DAt.vset (DAt.vset (DAt.vset H4.out HNQ4.out 1 _) HNQ4.out 2 _) HNQ4.out 3 _).drewd)
          have hsc : w4.heap.size ≤ wc.heap.size := by rw [hcut]; simp [World.setCell]
          clear hcut e0 e1 e2 e3 e4 f1 f2 f3
          obtain ⟨e0, e1, e2, e3, e4⟩ := HVC.out.cells
          have hsk := HSK.out
          rw [hsk] at e4
          clear hsk e2 e3
          go_wp2_with fail
          go_still_tail 9, (by kernel_rfl)
          have H5 := Lib.hid HC.out.drewd
          have S5 := Lib.hid SC.out.drew
          have HV5 := Lib.hid (HVC.out.below (Below.refl _ wc).drew)
          have hs5 : wc.drew.heap.size = wc.heap.size := rfl
          change wpList _ _ _ _ _ wc.drew
          generalize wc.drew = w5 at H5 S5 HV5 hs5 ⊢
          clear e0 e1 e4
          have HT := Lib.hid (trunc_any H5.out HKB.out (1 - (1 - v.f)) 0 (by omega))
          by_cases hc0 : (cutR d1 (1 - (1 - v.f)) 0).2 = 0
          · have HA := Lib.hid (HA.out.trans (if_neg (fun h => h hc0)))
            rw [hc0] at HT
            generalize (cutR d1 (1 - (1 - v.f)) 0).1 = d2 at HT HA
            clear hc0
            go_wp2_with fail
            refine HT.out.mono ?_
            rintro e w6 ⟨rfl, cs6, h6, s6⟩
            have S6 := Lib.hid (S5.out.then s6)
            have H6 := Lib.hid h6
            have HV6 := Lib.hid (HV5.out.kept s6.keep HNQ4.out)
            have HNQ6 : Hid (¬ Ft p cs6 q) := Lib.hid fun h => by
              rcases s6.foot q h with h | h
              · exact HNQ4.out h
              · omega
            clear h6 s6
            go_wp2
            go_ret
            rw [HA.out]
            exact ⟨rfl, cs6, H6.out, S6.out, HV6.out, HNQ6.out⟩
          · have HA := Lib.hid (HA.out.trans (if_pos hc0))
            have hc1 : ((cutR d1 (1 - (1 - v.f)) 0).2 == 0) = false := beq_eq_false_iff_ne.2 hc0
            have hc2 : ((cutR d1 (1 - (1 - v.f)) 0).2 != 0) = true := by simp [hc0]
            clear hc0
            generalize cutR d1 (1 - (1 - v.f)) 0 = r at HT HA hc1 hc2
            go_wp2_with fail
            refine HT.out.mono ?_
            rintro e w6 ⟨rfl, cs6, h6, s6⟩
            have S6 := Lib.hid (S5.out.then s6)
            have H6 := Lib.hid h6
            have HV6 := Lib.hid (HV5.out.kept s6.keep HNQ4.out)
            have HNQ6 : Hid (¬ Ft p cs6 q) := Lib.hid fun h => by
              rcases s6.foot q h with h | h
              · exact HNQ4.out h
              · omega
            clear h6 s6
            have HI := Lib.hid (ill_any HV6.out r.2)
            go_wp2_with fail
            refine HI.out.mono ?_
            rintro e w7 ⟨rfl, rfl⟩
            go_wp2
            go_ret
            rw [HA.out]
            exact ⟨rfl, cs6, DAt.vset H6.out HNQ6.out 4 _, S6.out.put hq 4 _, ⟨VB.put HV6.out 4 (.int .i64 r.2)⟩, HNQ6.out⟩
      · have HA := Lib.hid (HA.out.trans (if_pos hb0))
        have hb1 : ((beginR d (1 - v.f) (firstB (v.g + 1) s)).2 == 0) = false := beq_eq_false_iff_ne.2 hb0
        have hb2 : ((beginR d (1 - v.f) (firstB (v.g + 1) s)).2 != 0) = true := by simp [hb0]
        clear hb0
        generalize beginR d (1 - v.f) (firstB (v.g + 1) s) = r at HB HA hb1 hb2 HKB
        go_wp2_with fail
        refine HB.out.mono ?_
        rintro e w4 ⟨rfl, cs4, h4, s4⟩
        have S4 := Lib.hid (S3.out.trans s4)
        have H4 := Lib.hid h4
        have HV4 := Lib.hid (HV3.out.kept s4.keep HNQ.out)
        have HNQ4 : Hid (¬ Ft p cs4 q) := Lib.hid fun h => by
          rcases S4.out.foot q h with h | h
          · exact HNQ.out h
          · omega
        clear h4 s4
        have HI := Lib.hid (ill_any HV4.out r.2)
        go_wp2_with fail
        refine HI.out.mono ?_
        rintro e w5 ⟨rfl, rfl⟩
        go_wp2
        go_ret
        rw [HA.out]
        exact ⟨rfl, cs4, DAt.vset H4.out HNQ4.out 4 _, VStep.set S4.out hq 4 _, ⟨VB.put HV4.out 4 (.int .i64 r.2)⟩, HNQ4.out⟩
    · have HA := Lib.hid (HA.out.trans (if_pos hsk))
      have hb1 : (v.s == 0) = false := beq_eq_false_iff_ne.2 hsk
      have hb2 : (v.s != 0) = true := by simp [hsk]
      clear hsk e3
      go_wp2
      go_ret
      rw [HA.out]
      exact ⟨rfl, cs, H2.out, VStep.of S2.out, HV2.out, HNQ.out⟩
end Go.Proofs.YtfinaikgikifcaaDoor.vaulta
/- A vault's disk while the power stays: plain Lean. -/
namespace Go.Proofs.YtfinaikgikifcaaDoor.vaultp
open Go.RowKit Go.Shelf Go.Proofs.YtfinaikgikifcaaDoorW.PrintWords Go.Proofs.YtfinaikgikifcaaDoor.base Go.Proofs.YtfinaikgikifcaaDoor.mem Go.Proofs.YtfinaikgikifcaaDoor.crcp Go.Proofs.YtfinaikgikifcaaDoor.crcw Go.Proofs.YtfinaikgikifcaaDoor.samew Go.Proofs.YtfinaikgikifcaaDoor.framep Go.Proofs.YtfinaikgikifcaaDoor.frameit Go.Proofs.YtfinaikgikifcaaDoor.framem Go.Proofs.YtfinaikgikifcaaDoor.framel Go.Proofs.YtfinaikgikifcaaDoor.framea Go.Proofs.YtfinaikgikifcaaDoor.framer Go.Proofs.YtfinaikgikifcaaDoor.framen Go.Proofs.YtfinaikgikifcaaDoor.diskp Go.Proofs.YtfinaikgikifcaaDoor.diskr Go.Proofs.YtfinaikgikifcaaDoor.diskw Go.Proofs.YtfinaikgikifcaaDoor.vaulta

theorem Ok.vapp {d : D} {S N : Nat} (h : Ok d S N) (v : Vn) (ys : List Int) : Ok (vappR d v ys).1 (S + 1048584) (N + 2) := by
  unfold vappR
  split
  · exact h.more (by omega) (by omega)
  · have hl := fenc_len ys
    split
    · exact h.more (by omega) (by omega)
    · split
      · exact (Ok.begin_ h _ (fenc ys)).more (by omega) (by omega)
      · exact (Ok.begin_ h _ (fenc ys)).more (by omega) (by omega)
theorem Ok.vck {d : D} {S N : Nat} (h : Ok d S N) (v : Vn) (s : List Int) : Ok (vckR d v s).1 (S + 1048584) (N + 3) := by
  unfold vckR
  split
  · exact h.more (by omega) (by omega)
  · have hl : (firstB (v.g + 1) s).length = 8 + (8 + s.length) := by unfold firstB; rw [fenc_len, List.length_append, le8_len]
    split
    · exact h.more (by omega) (by omega)
    · split
      · exact h.more (by omega) (by omega)
      · split
        · exact (Ok.begin_ h _ (firstB (v.g + 1) s)).more (by omega) (by omega)
        · split
          · exact ((Ok.begin_ h _ (firstB (v.g + 1) s)).cut _ _).more (by omega) (by omega)
          · exact ((Ok.begin_ h _ (firstB (v.g + 1) s)).cut _ _).more (by omega) (by omega)
/-- the power is on, and no write is armed -/
structure Live (d : D) : Prop where
  off : d.off = false
  a : d.a = 0
theorem raw_live {d : D} (h : Live d) : rawD d = (⟨d.b, d.off, d.n + 1, d.a, d.k⟩, false) := by unfold rawD; rw [if_pos h.a]
theorem gone_live {d : D} (h : Live d) : gone d = ⟨d.b, d.off, d.n + 1, d.a, d.k⟩ := by unfold gone; rw [raw_live h]; rfl
theorem rdy_live {d : D} (h : Live d) {f : Int} (hf : f = 0 ∨ f = 1) : rdy d f = 0 := by unfold rdy; rw [h.off, if_neg (by omega)]; rfl
theorem ans_false : ans false = 0 := rfl
theorem app_live {d : D} (h : Live d) {f : Nat} (hf : f < 2) (ys : List Int) : (appR d f ys).2 = 0 ∧ Live (appR d f ys).1 ∧ (appR d f ys).1.n = d.n + 1 ∧ (appR d f ys).1.b (2 * f + 1) = d.b (2 * f + 1) ++ ys ∧ ∀ i, i ≠ 2 * f + 1 → (appR d f ys).1.b i = d.b i := by
  have hr : rdy d (f : Int) = 0 := rdy_live h (by omega)
  have hp : Live (putB d (2 * f + 1) (d.b (2 * f + 1) ++ ys)) := ⟨h.off, h.a⟩
  unfold appR
  rw [hr, if_neg (by simp), raw_live h]
  unfold appD
  rw [Int.toNat_natCast, gone_live hp]
  exact ⟨rfl, ⟨h.off, h.a⟩, rfl, upd_same _ _ _, fun i hi => upd_ne _ _ hi⟩
theorem sync_live {d : D} (h : Live d) {f : Nat} (hf : f < 2) : (syncR d f).2 = 0 ∧ Live (syncR d f).1 ∧ (syncR d f).1.n = d.n + 1 ∧ (syncR d f).1.b (2 * f) = d.b (2 * f) ++ d.b (2 * f + 1) ∧ (syncR d f).1.b (2 * f + 1) = [] ∧ ∀ i, i ≠ 2 * f → i ≠ 2 * f + 1 → (syncR d f).1.b i = d.b i := by
  have hr : rdy d (f : Int) = 0 := rdy_live h (by omega)
  unfold syncR
  rw [hr, if_neg (by simp), raw_live h]
  unfold syncD
  rw [Int.toNat_natCast, raw_live h, gone_live h]
  refine ⟨rfl, ⟨h.off, h.a⟩, rfl, ?_, ?_, fun i h1 h2 => ?_⟩
  · show upd (upd d.b (2 * f) _) (2 * f + 1) [] (2 * f) = _
    rw [upd_ne _ _ (by omega), upd_same]
  · exact upd_same _ _ _
  · show upd (upd d.b (2 * f) _) (2 * f + 1) [] i = _
    rw [upd_ne _ _ h2, upd_ne _ _ h1]
theorem cut_live {d : D} (h : Live d) {f : Nat} (hf : f < 2) {n : Nat} (hn : n ≤ (fileB d f).length) : (cutR d f n).2 = 0 ∧ Live (cutR d f n).1 ∧ (cutR d f n).1.n = d.n + 1 ∧ (cutR d f n).1.b (2 * f) = (d.b (2 * f)).take n ∧ (cutR d f n).1.b (2 * f + 1) = (d.b (2 * f + 1)).take (n - (d.b (2 * f)).length) ∧ ∀ i, i ≠ 2 * f → i ≠ 2 * f + 1 → (cutR d f n).1.b i = d.b i := by
  have hr : rdy d (f : Int) = 0 := rdy_live h (by omega)
  unfold cutR
  rw [hr, if_neg (by simp), Int.toNat_natCast, if_neg (by omega), if_neg (by simp), raw_live h]
  unfold cutD
  rw [Int.toNat_natCast, raw_live h, gone_live h]
  refine ⟨rfl, ⟨h.off, h.a⟩, rfl, ?_, ?_, fun i h1 h2 => ?_⟩
  · exact upd_same _ _ _
  · show upd (upd d.b (2 * f + 1) _) (2 * f) _ (2 * f + 1) = _
    rw [upd_ne _ _ (by omega), upd_same]
  · show upd (upd d.b (2 * f + 1) _) (2 * f) _ i = _
    rw [upd_ne _ _ h1, upd_ne _ _ h2]
theorem begin_live {d : D} (h : Live d) {f : Nat} (hf : f < 2) (ys : List Int) : (beginR d f ys).2 = 0 ∧ Live (beginR d f ys).1 ∧ (beginR d f ys).1.n = d.n + 2 ∧ (beginR d f ys).1.b (2 * f) = d.b (2 * f) ++ (d.b (2 * f + 1) ++ ys) ∧ (beginR d f ys).1.b (2 * f + 1) = [] ∧ ∀ i, i ≠ 2 * f → i ≠ 2 * f + 1 → (beginR d f ys).1.b i = d.b i := by
  obtain ⟨a1, a2, a3, a4, a5⟩ := app_live h hf ys
  obtain ⟨s1, s2, s3, s4, s5, s6⟩ := sync_live a2 hf
  unfold beginR
  rw [if_pos a1]
  exact ⟨s1, s2, by rw [s3, a3]; omega, by rw [s4, a4, a5 _ (by omega)], s5, fun i h1 h2 => by rw [s6 i h1 h2, a5 i h2]⟩
theorem wipe_live {d : D} (h : Live d) {f : Nat} (hf : f < 2) : (wipeR d f (fileB d f).length).2 = 0 ∧ Live (wipeR d f (fileB d f).length).1 ∧ d.n ≤ (wipeR d f (fileB d f).length).1.n ∧ (fileB d f = [] → (wipeR d f (fileB d f).length).1.n = d.n) ∧ (wipeR d f (fileB d f).length).1.b (2 * f) = [] ∧ (wipeR d f (fileB d f).length).1.b (2 * f + 1) = [] ∧ ∀ i, i ≠ 2 * f → i ≠ 2 * f + 1 → (wipeR d f (fileB d f).length).1.b i = d.b i := by
  unfold wipeR
  by_cases h0 : ((fileB d f).length : Int) = 0
  · rw [if_pos h0]
    have he : fileB d f = [] := List.eq_nil_of_length_eq_zero (by omega)
    unfold fileB at he
    rw [List.append_eq_nil_iff] at he
    exact ⟨rfl, h, Int.le_refl _, fun _ => rfl, he.1, he.2, fun _ _ _ => rfl⟩
  · rw [if_neg h0]
    obtain ⟨c1, c2, c3, c4, c5, c6⟩ := cut_live h hf (n := 0) (by omega)
    refine ⟨c1, c2, by have := c3; show d.n ≤ (cutR d f ((0 : Nat) : Int)).1.n; omega, fun he => by rw [he] at h0; exact absurd rfl h0, by rw [show (0 : Int) = ((0 : Nat) : Int) from rfl, c4]; rfl, by rw [show (0 : Int) = ((0 : Nat) : Int) from rfl, c5]; simp, c6⟩
/-- a vault lies on the disk: one file with its frames, the other one empty -/
structure Neat (d : D) (f : Nat) (g : Int) (s : List Int) (rs : List (List Int)) : Prop where
  live : Live d
  hf : f < 2
  hg : 1 ≤ g ∧ g ≤ 4611686018427387904
  hs : 8 + s.length ≤ 1048576
  hr : ∀ r ∈ rs, r.length ≤ 1048576
  by_ : By s
  b : d.b (2 * f) = fencs ((le8 g ++ s) :: rs)
  w : d.b (2 * f + 1) = []
  o : d.b (2 * (1 - f)) = [] ∧ d.b (2 * (1 - f) + 1) = []
end Go.Proofs.YtfinaikgikifcaaDoor.vaultp
/- What an opening finds on a clean disk, and that an opening makes a disk clean: plain Lean. -/
namespace Go.Proofs.YtfinaikgikifcaaDoor.vaultp
open Go.RowKit Go.Shelf Go.Proofs.YtfinaikgikifcaaDoorW.PrintWords Go.Proofs.YtfinaikgikifcaaDoor.base Go.Proofs.YtfinaikgikifcaaDoor.mem Go.Proofs.YtfinaikgikifcaaDoor.crcp Go.Proofs.YtfinaikgikifcaaDoor.crcw Go.Proofs.YtfinaikgikifcaaDoor.samew Go.Proofs.YtfinaikgikifcaaDoor.framep Go.Proofs.YtfinaikgikifcaaDoor.framew Go.Proofs.YtfinaikgikifcaaDoor.frameit Go.Proofs.YtfinaikgikifcaaDoor.framem Go.Proofs.YtfinaikgikifcaaDoor.framel Go.Proofs.YtfinaikgikifcaaDoor.framea Go.Proofs.YtfinaikgikifcaaDoor.framer Go.Proofs.YtfinaikgikifcaaDoor.framen Go.Proofs.YtfinaikgikifcaaDoor.diskp Go.Proofs.YtfinaikgikifcaaDoor.diskr Go.Proofs.YtfinaikgikifcaaDoor.diskw Go.Proofs.YtfinaikgikifcaaDoor.vaulta

theorem getD_le8 (g : Int) (s : List Int) {i : Nat} (hi : i < 8) : (le8 g ++ s).getD i 0 = byte8 g i := by
  rw [List.getD_eq_getElem?_getD, List.getElem?_append_left (by rw [le8_len]; exact hi)]
  unfold le8
  rw [List.getElem?_map, List.getElem?_range hi]
  rfl
theorem byte8_nat (m i : Nat) : byte8 (m : Int) i = ((m / 2 ^ (8 * i) % 256 : Nat) : Int) := by
  unfold byte8
  rw [show (2 : Int) ^ (8 * i) = ((2 ^ (8 * i) : Nat) : Int) from (Int.natCast_pow 2 (8 * i)).symm]
  omega
theorem leP_le8 (m : Nat) (s : List Int) : ∀ k, k ≤ 8 → leP (le8 (m : Int) ++ s) k = ((m % 256 ^ k : Nat) : Int)
  | 0, _ => by
    rw [Nat.pow_zero, Nat.mod_one]
    rfl
  | k + 1, h => by
    have ep : (256 : Nat) ^ k = 2 ^ (8 * k) := by rw [show (256 : Nat) = 2 ^ 8 from rfl, ← Nat.pow_mul]
    unfold leP
    rw [leP_le8 m s k (by omega), getD_le8 _ _ (by omega), byte8_nat, Nat.pow_succ, Nat.mod_mul, ep]
    rw [show (256 : Int) ^ k = ((2 ^ (8 * k) : Nat) : Int) from by rw [← ep]; exact (Int.natCast_pow 256 k).symm, Int.natCast_add, Int.natCast_mul]
theorem leN_le8 {g : Int} (hg : 0 ≤ g ∧ g ≤ 4611686018427387905) (s : List Int) : leN (le8 g ++ s) = g := by
  obtain ⟨m, rfl⟩ := Int.eq_ofNat_of_zero_le hg.1
  unfold leN
  rw [leP_le8 m s 8 (by omega), Nat.mod_eq_of_lt]
  have : (256 : Nat) ^ 8 = 18446744073709551616 := by decide
  omega
theorem good_le8 {g : Int} (hg : 1 ≤ g ∧ g ≤ 4611686018427387904) (s : List Int) : goodP (le8 g ++ s) := by
  refine ⟨by rw [List.length_append, le8_len]; omega, ?_⟩
  rw [leN_le8 (by omega)]
  exact hg
theorem drop_le8 (g : Int) (s : List Int) : (le8 g ++ s).drop 8 = s := List.drop_left' (le8_len g)
theorem bytes8 {x0 x1 x2 x3 x4 x5 x6 x7 : Int} (h0 : 0 ≤ x0 ∧ x0 ≤ 255) (h1 : 0 ≤ x1 ∧ x1 ≤ 255) (h2 : 0 ≤ x2 ∧ x2 ≤ 255) (h3 : 0 ≤ x3 ∧ x3 ≤ 255) (h4 : 0 ≤ x4 ∧ x4 ≤ 255) (h5 : 0 ≤ x5 ∧ x5 ≤ 255) (h6 : 0 ≤ x6 ∧ x6 ≤ 255) (h7 : 0 ≤ x7 ∧ x7 ≤ 255) :
    byte8 (x0 + 256 * x1 + 65536 * x2 + 16777216 * x3 + 4294967296 * x4 + 1099511627776 * x5 + 281474976710656 * x6 + 72057594037927936 * x7) 0 = x0 ∧
    byte8 (x0 + 256 * x1 + 65536 * x2 + 16777216 * x3 + 4294967296 * x4 + 1099511627776 * x5 + 281474976710656 * x6 + 72057594037927936 * x7) 1 = x1 ∧
    byte8 (x0 + 256 * x1 + 65536 * x2 + 16777216 * x3 + 4294967296 * x4 + 1099511627776 * x5 + 281474976710656 * x6 + 72057594037927936 * x7) 2 = x2 ∧
    byte8 (x0 + 256 * x1 + 65536 * x2 + 16777216 * x3 + 4294967296 * x4 + 1099511627776 * x5 + 281474976710656 * x6 + 72057594037927936 * x7) 3 = x3 ∧
    byte8 (x0 + 256 * x1 + 65536 * x2 + 16777216 * x3 + 4294967296 * x4 + 1099511627776 * x5 + 281474976710656 * x6 + 72057594037927936 * x7) 4 = x4 ∧
    byte8 (x0 + 256 * x1 + 65536 * x2 + 16777216 * x3 + 4294967296 * x4 + 1099511627776 * x5 + 281474976710656 * x6 + 72057594037927936 * x7) 5 = x5 ∧
    byte8 (x0 + 256 * x1 + 65536 * x2 + 16777216 * x3 + 4294967296 * x4 + 1099511627776 * x5 + 281474976710656 * x6 + 72057594037927936 * x7) 6 = x6 ∧
    byte8 (x0 + 256 * x1 + 65536 * x2 + 16777216 * x3 + 4294967296 * x4 + 1099511627776 * x5 + 281474976710656 * x6 + 72057594037927936 * x7) 7 = x7 := by
  unfold byte8
  rw [show (2 : Int) ^ (8 * 0) = 1 from by decide, show (2 : Int) ^ (8 * 1) = 256 from by decide, show (2 : Int) ^ (8 * 2) = 65536 from by decide, show (2 : Int) ^ (8 * 3) = 16777216 from by decide, show (2 : Int) ^ (8 * 4) = 4294967296 from by decide, show (2 : Int) ^ (8 * 5) = 1099511627776 from by decide, show (2 : Int) ^ (8 * 6) = 281474976710656 from by decide, show (2 : Int) ^ (8 * 7) = 72057594037927936 from by decide]
  refine ⟨?_, ?_, ?_, ?_, ?_, ?_, ?_, ?_⟩ <;> omega
/-- the eight bytes again -/
theorem le8_leN {p : List Int} (h : By p) (h8 : 8 ≤ p.length) : le8 (leN p) ++ p.drop 8 = p := by
  have key : ∀ i, i < 8 → byte8 (leN p) i = p.getD i 0 := by
    have e1 : leN p = p.getD 0 0 + 256 * p.getD 1 0 + 65536 * p.getD 2 0 + 16777216 * p.getD 3 0 + 4294967296 * p.getD 4 0 + 1099511627776 * p.getD 5 0 + 281474976710656 * p.getD 6 0 + 72057594037927936 * p.getD 7 0 := by
      unfold leN
      simp only [leP]
      omega
    have b0 := By.getD h 0
    have b1 := By.getD h 1
    have b2 := By.getD h 2
    have b3 := By.getD h 3
    have b4 := By.getD h 4
    have b5 := By.getD h 5
    have b6 := By.getD h 6
    have b7 := By.getD h 7
    have h8b := bytes8 b0 b1 b2 b3 b4 b5 b6 b7
    rw [← e1] at h8b
    intro i hi
    match i, hi with
    | 0, _ => exact h8b.1
    | 1, _ => exact h8b.2.1
    | 2, _ => exact h8b.2.2.1
    | 3, _ => exact h8b.2.2.2.1
    | 4, _ => exact h8b.2.2.2.2.1
    | 5, _ => exact h8b.2.2.2.2.2.1
    | 6, _ => exact h8b.2.2.2.2.2.2.1
    | 7, _ => exact h8b.2.2.2.2.2.2.2
  have e : le8 (leN p) = p.take 8 := by
    apply List.ext_getElem?
    intro i
    rcases Nat.lt_or_ge i 8 with hi | hi
    · have := key i hi
      have hip : i < p.length := by omega
      rw [List.getD_eq_getElem?_getD, List.getElem?_eq_getElem hip, Option.getD_some] at this
      rw [List.getElem?_take_of_lt hi, List.getElem?_eq_getElem hip]
      unfold le8
      rw [List.getElem?_map, List.getElem?_range hi, Option.map_some, this]
    · rw [List.getElem?_eq_none (by rw [le8_len]; exact hi), List.getElem?_eq_none (by rw [List.length_take]; omega)]
  rw [e, List.take_append_drop]

/-! ### frames are what they must be -/
theorem firstN_body {xs : List Int} (h : By xs) (h0 : firstN xs ≠ 0) : xs.take (firstN xs) = fenc ((xs.drop 8).take (firstN xs - 8)) ∧ ((xs.drop 8).take (firstN xs - 8)).length = firstN xs - 8 ∧ firstN xs - 8 ≤ 1048576 := by
  have hg := firstN_ge xs h0
  have hl := firstN_le xs
  have h0' := h0
  unfold firstN at h0'
  by_cases h8 : xs.length < 8
  · rw [if_pos h8] at h0'; exact absurd rfl h0'
  · rw [if_neg h8] at h0'
    by_cases hc : 1048576 < (w4 xs).toNat ∨ xs.length - 8 < (w4 xs).toNat ∨ parts 0 [xs.take 4, (xs.drop 8).take (w4 xs).toNat] ≠ w4 (xs.drop 4)
    · rw [if_pos hc] at h0'; exact absurd rfl h0'
    · have hN : firstN xs = 8 + (w4 xs).toNat := by unfold firstN; rw [if_neg h8, if_neg hc]
      have h1 : ¬ 1048576 < (w4 xs).toNat := fun e => hc (.inl e)
      have h2 : ¬ xs.length - 8 < (w4 xs).toNat := fun e => hc (.inr (.inl e))
      have h3 : parts 0 [xs.take 4, (xs.drop 8).take (w4 xs).toNat] = w4 (xs.drop 4) := Classical.byContradiction fun e => hc (.inr (.inr e))
      have hw := w4_range h
      have hpl : ((xs.drop 8).take (w4 xs).toNat).length = (w4 xs).toNat := by rw [List.length_take, List.length_drop]; omega
      have hw0 : (0 : Int) ≤ w4 xs := hw.1
      rw [hN, show 8 + (w4 xs).toNat - 8 = (w4 xs).toNat from by omega]
      refine ⟨?_, hpl, by omega⟩
      have e1 := (first_iff (pl := (xs.drop 8).take (w4 xs).toNat) h (by omega) (by rw [hpl]; omega)).2 h3
      have e2 : (fenc ((xs.drop 8).take (w4 xs).toNat)).drop 8 = (xs.drop 8).take (w4 xs).toNat := rfl
      rw [← List.take_append_drop 8 (fenc ((xs.drop 8).take (w4 xs).toNat)), e1, e2, List.take_add]
theorem fencs_P : ∀ (n : Nat) (xs : List Int), xs.length ≤ n → By xs → fencs (P xs) = xs.take (E xs) ∧ ∀ p ∈ P xs, p.length ≤ 1048576 ∧ By p := by
  intro n
  induction n with
  | zero =>
    intro xs hn hb
    have : xs = [] := List.eq_nil_of_length_eq_zero (by omega)
    subst this
    obtain ⟨h1, h2⟩ := P_stop (xs := []) firstN_nil
    rw [h1, h2]
    exact ⟨rfl, by simp⟩
  | succ n ih =>
    intro xs hn hb
    by_cases h0 : firstN xs = 0
    · obtain ⟨h1, h2⟩ := P_stop h0
      rw [h1, h2]
      exact ⟨rfl, by simp⟩
    · obtain ⟨h1, h2⟩ := P_next h0
      obtain ⟨b1, b2, b3⟩ := firstN_body hb h0
      have hge := firstN_ge xs h0
      have hle := firstN_le xs
      obtain ⟨i1, i2⟩ := ih (xs.drop (firstN xs)) (by rw [List.length_drop]; omega) (hb.drop _)
      rw [h1, h2]
      refine ⟨?_, fun p hp => ?_⟩
      · show fenc _ ++ fencs (P (xs.drop (firstN xs))) = _
        rw [i1, ← b1, List.take_add]
      · rcases List.mem_cons.1 hp with rfl | hp
        · exact ⟨by rw [b2]; exact b3, (hb.drop 8).take _⟩
        · exact i2 p hp
end Go.Proofs.YtfinaikgikifcaaDoor.vaultp
/- Openings, records and checkpoints while the power stays: plain Lean. -/
namespace Go.Proofs.YtfinaikgikifcaaDoor.vaultp
open Go.RowKit Go.Shelf Go.Proofs.YtfinaikgikifcaaDoorW.PrintWords Go.Proofs.YtfinaikgikifcaaDoor.base Go.Proofs.YtfinaikgikifcaaDoor.mem Go.Proofs.YtfinaikgikifcaaDoor.crcp Go.Proofs.YtfinaikgikifcaaDoor.crcw Go.Proofs.YtfinaikgikifcaaDoor.samew Go.Proofs.YtfinaikgikifcaaDoor.framep Go.Proofs.YtfinaikgikifcaaDoor.frameit Go.Proofs.YtfinaikgikifcaaDoor.framem Go.Proofs.YtfinaikgikifcaaDoor.framel Go.Proofs.YtfinaikgikifcaaDoor.framea Go.Proofs.YtfinaikgikifcaaDoor.framer Go.Proofs.YtfinaikgikifcaaDoor.framen Go.Proofs.YtfinaikgikifcaaDoor.diskp Go.Proofs.YtfinaikgikifcaaDoor.diskr Go.Proofs.YtfinaikgikifcaaDoor.diskw Go.Proofs.YtfinaikgikifcaaDoor.vaulta

theorem P_nil : P [] = [] := (P_stop (xs := []) firstN_nil).1
theorem E_nil : E [] = 0 := (P_stop (xs := []) firstN_nil).2
theorem PE_fencs {ps : List (List Int)} (h : ∀ p ∈ ps, p.length ≤ 1048576) : P (fencs ps) = ps ∧ E (fencs ps) = (fencs ps).length := by
  have := P_fencs ps [] h
  rw [List.append_nil, P_nil, E_nil, List.append_nil, Nat.add_zero] at this
  exact this
theorem fencs_one (p : List Int) : fencs [p] = fenc p := by simp [fencs]
theorem lookF_nil : lookF [] = (0, [], []) := by unfold lookF; rw [P_nil]; rfl
section
variable {d : D} {f : Nat} {g : Int} {s : List Int} {rs : List (List Int)}
theorem Neat.lens (h : Neat d f g s rs) : ∀ p ∈ (le8 g ++ s) :: rs, p.length ≤ 1048576 := by
  intro p hp
  rcases List.mem_cons.1 hp with rfl | hp
  · rw [List.length_append, le8_len]; exact h.hs
  · exact h.hr p hp
theorem Neat.file (h : Neat d f g s rs) : fileB d f = fencs ((le8 g ++ s) :: rs) := by unfold fileB; rw [h.b, h.w, List.append_nil]
theorem Neat.other (h : Neat d f g s rs) : fileB d (1 - f) = [] := by unfold fileB; rw [h.o.1, h.o.2]; rfl
theorem Neat.look (h : Neat d f g s rs) : lookF (fileB d f) = (g, s, rs) := by
  unfold lookF
  rw [h.file, (PE_fencs h.lens).1, lookP_good _ (good_le8 h.hg s), leN_le8 (by have := h.hg; omega), drop_le8]
theorem Neat.pick (h : Neat d f g s rs) : pick d = f := by
  have h1 := h.look
  have h2 := h.other
  have hg := h.hg
  unfold vaultp.pick
  match f, h.hf with
  | 0, _ => rw [h1, show fileB d 1 = [] from h2, lookF_nil, if_neg (by simp; omega)]
  | 1, _ => rw [h1, show fileB d 0 = [] from h2, lookF_nil, if_pos (by simp; omega)]
theorem Neat.openR (h : Neat d f g s rs) {s' : List Int} (hs' : 8 + s'.length ≤ 1048576) : ∃ d', openR d s' = ⟨d', 0, ⟨f, g, s, rs⟩⟩ ∧ Neat d' f g s rs ∧ d'.n = d.n + 1 ∧ d'.k = d.k := by
  obtain ⟨s1, s2, s3, s4, s5, s6⟩ := sync_live h.live h.hf
  have hsk : (syncR d f).1.k = d.k := by
    have hr : rdy d (f : Int) = 0 := rdy_live h.live (by have := h.hf; omega)
    unfold syncR
    rw [hr, if_neg (by simp)]
    unfold syncD
    rw [raw_live h.live, gone_live h.live]
    rfl
  refine ⟨(syncR d f).1, ?_, ⟨s2, h.hf, h.hg, h.hs, h.hr, h.by_, by rw [s4, h.w, List.append_nil]; exact h.b, s5, ?_⟩, s3, hsk⟩
  · have hg := h.hg
    have hw : wipeR d ((1 : Int) - f) (fileB d (1 - f)).length = (d, 0) := by rw [h.other]; exact if_pos rfl
    have hE := (PE_fencs h.lens).2
    unfold vaultp.openR
    rw [if_neg (by omega), h.live.off, if_neg (by simp), h.pick, h.look, if_neg (by show ¬ g = 0; omega)]
    unfold oldR
    rw [hw, if_neg (by simp), h.look]
    have hm : mendR d f (E (fileB d f) : Nat) (fileB d f).length = syncR d f := by
      unfold mendR
      rw [h.file, hE, if_neg (by omega)]
    show (⟨(mendR d f (E (fileB d f) : Nat) (fileB d f).length).1, (mendR d f (E (fileB d f) : Nat) (fileB d f).length).2, ⟨f, g, s, rs⟩⟩ : Opn) = _
    rw [hm, s1]
  · have hf := h.hf
    exact ⟨by rw [s6 _ (by omega) (by omega)]; exact h.o.1, by rw [s6 _ (by omega) (by omega)]; exact h.o.2⟩
theorem Neat.app (h : Neat d f g s rs) {ys : List Int} (hy : ys.length ≤ 1048576) (n : Int) : ∃ d', vappR d ⟨f, g, n, 0⟩ ys = (d', ⟨f, g, n + 1, 0⟩, 0) ∧ Neat d' f g s (rs ++ [ys]) ∧ d'.n = d.n + 2 := by
  obtain ⟨b1, b2, b3, b4, b5, b6⟩ := begin_live h.live h.hf (fenc ys)
  refine ⟨(beginR d f (fenc ys)).1, ?_, ⟨b2, h.hf, h.hg, h.hs, fun r hr => ?_, h.by_, ?_, b5, ?_⟩, b3⟩
  · unfold vappR
    rw [if_neg (by omega), if_neg (by simp)]
    show (if (beginR d f (fenc ys)).2 ≠ 0 then _ else _) = _
    rw [if_neg (by simp [b1])]
  · rcases List.mem_append.1 hr with hr | hr
    · exact h.hr r hr
    · rw [List.mem_singleton.1 hr]; exact hy
  · rw [b4, h.b, h.w, List.nil_append, ← List.cons_append, fencs_snoc]
  · have hf := h.hf
    exact ⟨by rw [b6 _ (by omega) (by omega)]; exact h.o.1, by rw [b6 _ (by omega) (by omega)]; exact h.o.2⟩
theorem Neat.ck (h : Neat d f g s rs) (hg : g < 4611686018427387904) {s' : List Int} (hs : 8 + s'.length ≤ 1048576) (hb : By s') (n : Int) : ∃ d', vckR d ⟨f, g, n, 0⟩ s' = (d', ⟨((1 - f : Nat) : Int), g + 1, 0, 0⟩, 0) ∧ Neat d' (1 - f) (g + 1) s' [] := by
  have hf := h.hf
  have hg1 := h.hg
  have e1 : (1 : Int) - f = ((1 - f : Nat) : Int) := by omega
  have e2 : (1 : Int) - ((1 - f : Nat) : Int) = f := by omega
  obtain ⟨b1, b2, b3, b4, b5, b6⟩ := begin_live h.live (f := 1 - f) (by omega) (firstB (g + 1) s')
  obtain ⟨c1, c2, c3, c4, c5, c6⟩ := cut_live b2 (f := f) hf (n := 0) (by omega)
  refine ⟨(cutR (beginR d ((1 - f : Nat) : Int) (firstB (g + 1) s')).1 f 0).1, ?_, ⟨c2, by omega, by omega, hs, by simp, hb, ?_, ?_, ?_⟩⟩
  · unfold vckR
    rw [if_neg (by omega), if_neg (by show ¬ _ ≤ g; omega), if_neg (by simp)]
    show (if (beginR d (1 - (f : Int)) (firstB (g + 1) s')).2 ≠ 0 then _ else if (cutR (beginR d (1 - (f : Int)) (firstB (g + 1) s')).1 (1 - (1 - (f : Int))) 0).2 ≠ 0 then _ else ((cutR (beginR d (1 - (f : Int)) (firstB (g + 1) s')).1 (1 - (1 - (f : Int))) 0).1, (⟨1 - (f : Int), g + 1, 0, 0⟩ : Vn), (0 : Int))) = _
    rw [e1, e2, if_neg (by simp [b1]), if_neg (fun hne => hne c1)]
  · rw [show ((0 : Nat) : Int) = 0 from rfl] at c6
    rw [c6 _ (by omega) (by omega), b4, h.o.1, h.o.2, fencs_one]
    rfl
  · rw [show ((0 : Nat) : Int) = 0 from rfl] at c6
    rw [c6 _ (by omega) (by omega), b5]
  · rw [show 1 - (1 - f) = f from by omega]
    rw [show ((0 : Nat) : Int) = 0 from rfl] at c4 c5
    exact ⟨by rw [c4]; rfl, by rw [c5]; simp⟩
/-- any disk while the power stays: an opening finds or makes a vault, and leaves a clean disk -/
theorem any_open (hl : Live d) (hb : ∀ i, i < 4 → By (d.b i)) {s : List Int} (hs : 8 + s.length ≤ 1048576) (hby : By s) : ∃ d' v, openR d s = ⟨d', 0, v⟩ ∧ Neat d' v.f v.g v.s v.r ∧ ((lookF (fileB d (pick d))).1 = 0 → v = ⟨0, 1, s, []⟩) := by
  unfold openR
  rw [if_neg (by omega), hl.off, if_neg (by simp)]
  have hpk : pick d < 2 := by unfold pick; split <;> omega
  have hfb : ∀ i, i < 2 → By (fileB d i) := fun i hi => by unfold fileB; exact (hb _ (by omega)).append (hb _ (by omega))
  by_cases h0 : (lookF (fileB d (pick d))).1 = 0
  · rw [if_pos h0]
    obtain ⟨w1, w2, w3, _, w4, w5, w6⟩ := wipe_live hl (f := 0) (by omega)
    obtain ⟨b1, b2, b3, b4, b5, b6⟩ := begin_live w2 (f := 0) (by omega) (firstB 1 s)
    have hfo : fileB (beginR (wipeR d ((0 : Nat) : Int) (fileB d 0).length).1 ((0 : Nat) : Int) (firstB 1 s)).1 1 = fileB d 1 := by
      show (beginR (wipeR d ((0 : Nat) : Int) (fileB d 0).length).1 ((0 : Nat) : Int) (firstB 1 s)).1.b (2 * 1) ++ (beginR (wipeR d ((0 : Nat) : Int) (fileB d 0).length).1 ((0 : Nat) : Int) (firstB 1 s)).1.b (2 * 1 + 1) = _
      rw [b6 _ (by omega) (by omega), b6 _ (by omega) (by omega), w6 _ (by omega) (by omega), w6 _ (by omega) (by omega)]
      rfl
    obtain ⟨v1, v2, v3, _, v4, v5, v6⟩ := wipe_live b2 (f := 1) (by omega)
    rw [hfo] at v1 v2 v3 v4 v5 v6
    refine ⟨_, ⟨0, 1, s, []⟩, ?_, ⟨v2, by show 0 < 2; omega, by show 1 ≤ (1 : Int) ∧ (1 : Int) ≤ 4611686018427387904; omega, hs, by simp, hby, ?_, ?_, ?_⟩, fun _ => rfl⟩
    · unfold newR
      rw [if_neg (fun h => h w1), if_neg (fun h => h b1)]
      show (⟨_, (wipeR (beginR (wipeR d ((0 : Nat) : Int) (fileB d 0).length).1 ((0 : Nat) : Int) (firstB 1 s)).1 ((1 : Nat) : Int) (fileB d 1).length).2, _⟩ : Opn) = _
      rw [v1]
      rfl
    · rw [v6 _ (by show 2 * 0 ≠ 2 * 1; omega) (by show 2 * 0 ≠ 2 * 1 + 1; omega)]
      show _ = fencs [le8 1 ++ s]
      rw [fencs_one]
      refine b4.trans ?_
      rw [w4, w5]
      rfl
    · rw [v6 _ (by show 2 * 0 + 1 ≠ 2 * 1; omega) (by show 2 * 0 + 1 ≠ 2 * 1 + 1; omega)]
      exact b5
    · exact ⟨v4, v5⟩
  · rw [if_neg h0]
    generalize hf : pick d = f at *
    have e1 : (1 : Int) - f = ((1 - f : Nat) : Int) := by omega
    obtain ⟨w1, w2, w3, _, w4, w5, w6⟩ := wipe_live hl (f := 1 - f) (by omega)
    have hff : fileB (wipeR d ((1 - f : Nat) : Int) (fileB d (1 - f)).length).1 f = fileB d f := by
      show (wipeR d ((1 - f : Nat) : Int) (fileB d (1 - f)).length).1.b (2 * f) ++ (wipeR d ((1 - f : Nat) : Int) (fileB d (1 - f)).length).1.b (2 * f + 1) = _
      rw [w6 _ (by omega) (by omega), w6 _ (by omega) (by omega)]
      rfl
    have hE := E_le (fileB d f)
    obtain ⟨p1, p2⟩ := fencs_P _ (fileB d f) (Nat.le_refl _) (hfb f hpk)
    -- what mend makes
    have hm : (mendR (wipeR d ((1 - f : Nat) : Int) (fileB d (1 - f)).length).1 f (E (fileB d f) : Nat) (fileB d f).length).2 = 0 ∧ Live (mendR (wipeR d ((1 - f : Nat) : Int) (fileB d (1 - f)).length).1 f (E (fileB d f) : Nat) (fileB d f).length).1 ∧
        (mendR (wipeR d ((1 - f : Nat) : Int) (fileB d (1 - f)).length).1 f (E (fileB d f) : Nat) (fileB d f).length).1.b (2 * f) = (fileB d f).take (E (fileB d f)) ∧
        (mendR (wipeR d ((1 - f : Nat) : Int) (fileB d (1 - f)).length).1 f (E (fileB d f) : Nat) (fileB d f).length).1.b (2 * f + 1) = [] ∧
        ∀ i, i ≠ 2 * f → i ≠ 2 * f + 1 → (mendR (wipeR d ((1 - f : Nat) : Int) (fileB d (1 - f)).length).1 f (E (fileB d f) : Nat) (fileB d f).length).1.b i = (wipeR d ((1 - f : Nat) : Int) (fileB d (1 - f)).length).1.b i := by
      generalize (wipeR d ((1 - f : Nat) : Int) (fileB d (1 - f)).length).1 = d1 at *
      unfold mendR
      by_cases hlt : ((E (fileB d f) : Nat) : Int) < ((fileB d f).length : Nat)
      · rw [if_pos hlt]
        obtain ⟨c1, c2, c3, c4, c5, c6⟩ := cut_live w2 hpk (n := E (fileB d f)) (by rw [hff]; exact hE)
        obtain ⟨s1, s2, s3, s4, s5, s6⟩ := sync_live c2 hpk
        rw [if_pos c1]
        refine ⟨s1, s2, ?_, s5, fun i h1 h2 => by rw [s6 i h1 h2, c6 i h1 h2]⟩
        rw [s4, c4, c5, ← List.take_append]
        exact congrArg (List.take _) hff
      · rw [if_neg hlt]
        obtain ⟨s1, s2, s3, s4, s5, s6⟩ := sync_live w2 hpk
        refine ⟨s1, s2, ?_, s5, s6⟩
        rw [s4, List.take_of_length_le (by omega), ← hff]
        rfl
    obtain ⟨m1, m2, m3, m4, m5⟩ := hm
    -- the payloads of the file
    have hlk : ∃ p r, P (fileB d f) = p :: r ∧ goodP p := by
      cases hP : P (fileB d f) with
      | nil => unfold lookF at h0; rw [hP] at h0; exact absurd rfl h0
      | cons p r =>
        by_cases hg : goodP p
        · exact ⟨p, r, rfl, hg⟩
        · unfold lookF at h0; rw [hP, lookP_bad r hg] at h0; exact absurd rfl h0
    obtain ⟨p, r, hP, hg⟩ := hlk
    have hlook : lookF (fileB d f) = (leN p, p.drop 8, r) := by unfold lookF; rw [hP, lookP_good r hg]
    have hpin := p2 p (by rw [hP]; simp)
    refine ⟨_, ⟨f, leN p, p.drop 8, r⟩, ?_, ⟨m2, hpk, hg.2, by show 8 + (p.drop 8).length ≤ _; rw [List.length_drop]; have := hg.1; omega, fun q hq => (p2 q (by rw [hP]; simp [hq])).1, hpin.2.drop 8, ?_, m4, ?_⟩, fun h => absurd h h0⟩
    · unfold oldR
      rw [e1, if_neg (fun h => h w1), hlook, m1]
    · rw [m3, ← p1, hP, le8_leN hpin.2 hg.1]
    · exact ⟨by rw [m5 _ (by show 2 * (1 - f) ≠ 2 * f; omega) (by show 2 * (1 - f) ≠ 2 * f + 1; omega)]; exact w4, by rw [m5 _ (by show 2 * (1 - f) + 1 ≠ 2 * f; omega) (by show 2 * (1 - f) + 1 ≠ 2 * f + 1; omega)]; exact w5⟩
theorem load_live (a b : List Int) : Live (diskp.load a b) := ⟨rfl, rfl⟩
theorem load_by {a b : List Int} (ha : By a) (hb : By b) : ∀ i, i < 4 → By ((diskp.load a b).b i) := fun i hi => by
  match i, hi with
  | 0, _ => exact ha
  | 1, _ => exact By_of _ (by simp [diskp.load])
  | 2, _ => exact hb
  | 3, _ => exact By_of _ (by simp [diskp.load])
theorem fresh_open {s : List Int} (hs : 8 + s.length ≤ 1048576) (hby : By s) : ∃ d', openR (diskp.load [] []) s = ⟨d', 0, ⟨0, 1, s, []⟩⟩ ∧ Neat d' 0 1 s [] := by
  obtain ⟨d', v, h1, h2, h3⟩ := any_open (load_live [] []) (load_by (By_of _ (by simp)) (By_of _ (by simp))) hs hby
  have h4 := h3 (by
    have e : ∀ f, f < 2 → fileB (diskp.load [] []) f = [] := fun f hf => by
      match f, hf with
      | 0, _ => rfl
      | 1, _ => rfl
    have hp : pick (diskp.load [] []) < 2 := by unfold pick; split <;> omega
    rw [e _ hp, lookF_nil])
  subst h4
  exact ⟨d', h1, h2⟩
/-- bounds of a disk on which a vault lies -/
theorem Neat.ok (h : Neat d f g s rs) {N : Nat} (hn : 0 ≤ d.n ∧ d.n ≤ N) (hk : -9223372036854775808 ≤ d.k ∧ d.k ≤ 9223372036854775807) : Ok d (fencs ((le8 g ++ s) :: rs)).length N := by
  have hf := h.hf
  refine ⟨?_, hn, by rw [h.live.a]; omega, hk⟩
  unfold tot
  match f, hf with
  | 0, _ => rw [h.b, h.w, h.o.1, h.o.2]; simp
  | 1, _ =>
    have h1 := h.o.1
    have h2 := h.o.2
    have h3 := h.b
    have h4 := h.w
    simp only [Nat.sub_self, Nat.mul_zero, Nat.mul_one, Nat.zero_add] at h1 h2 h3 h4 ⊢
    rw [h1, h2, h3, h4]
    simp
theorem Neat.count (h : Neat d f g s rs) (i : Nat) (hi : i < 2) : (P (fileB d i)).length ≤ rs.length + 1 := by
  have hf := h.hf
  by_cases e : i = f
  · subst e
    rw [h.file, (PE_fencs h.lens).1]
    simp
  · have : i = 1 - f := by omega
    subst this
    rw [h.other, P_nil]
    simp
theorem fencs_size (g : Int) (s : List Int) (rs : List (List Int)) : (fencs ((le8 g ++ s) :: rs)).length = 16 + s.length + (rs.length * 8 + rs.flatten.length) := by
  show (fenc (le8 g ++ s) ++ fencs rs).length = _
  rw [List.length_append, fenc_len, List.length_append, le8_len, fencs_len]
  omega
theorem Neat.small (h : Neat d f g s rs) {S N : Nat} (hk : Ok d S N) : 16 + s.length + (rs.length * 8 + rs.flatten.length) ≤ S := by
  rw [← fencs_size g s rs, ← h.b]
  exact hk.len _ (by have := h.hf; omega)
end
end Go.Proofs.YtfinaikgikifcaaDoor.vaultp
/- The laws' wakes; Open of disks on which the power stays. -/
namespace Go.Proofs.YtfinaikgikifcaaDoor.vaultk
open Go.RowKit Go.Shelf Go.Proofs.YtfinaikgikifcaaDoorW.PrintWords Go.Proofs.YtfinaikgikifcaaDoor.base Go.Proofs.YtfinaikgikifcaaDoor.mem Go.Proofs.YtfinaikgikifcaaDoor.keep Go.Proofs.YtfinaikgikifcaaDoor.crcp Go.Proofs.YtfinaikgikifcaaDoor.crcw Go.Proofs.YtfinaikgikifcaaDoor.samew Go.Proofs.YtfinaikgikifcaaDoor.framep Go.Proofs.YtfinaikgikifcaaDoor.framew Go.Proofs.YtfinaikgikifcaaDoor.frameit Go.Proofs.YtfinaikgikifcaaDoor.framem Go.Proofs.YtfinaikgikifcaaDoor.framel Go.Proofs.YtfinaikgikifcaaDoor.framea Go.Proofs.YtfinaikgikifcaaDoor.framer Go.Proofs.YtfinaikgikifcaaDoor.framen Go.Proofs.YtfinaikgikifcaaDoor.framek Go.Proofs.YtfinaikgikifcaaDoor.diskp Go.Proofs.YtfinaikgikifcaaDoor.diskr Go.Proofs.YtfinaikgikifcaaDoor.diskw Go.Proofs.YtfinaikgikifcaaDoor.vaultp Go.Proofs.YtfinaikgikifcaaDoor.vaultw Go.Proofs.YtfinaikgikifcaaDoor.vaultl Go.Proofs.YtfinaikgikifcaaDoor.vaulta Go.Proofs.YtfinaikgikifcaaDoor.vaulto

/-- Open answered a vault -/
def RetG (w : World) (base p : Nat) (cs : Nat → Sl) (d' : D) (v : Vt) (e : Ending) (w' : World) : Prop :=
  ∃ q A n c B m c2 cells cs', e = .returned (.tuple #[.pointer (some ⟨q, 0, none⟩), .slice A n c, .slice B m c2, .int .i64 0]) ∧ DAt w' base p cs' d' ∧ DStep w base p cs w' cs' ∧ VB w' q p v.f v.g (v.r.length : Nat) 0 ∧ (w.heap.size ≤ q ∧ ¬ Ft p cs' q) ∧
    Got (fun j => w.heap.size ≤ j ∧ ¬ Ft p cs' j ∧ j ≠ q) w' w.heap.size A n c v.s B m c2 cells v.r
theorem RetOp.got {w : World} {base p : Nat} {cs : Nat → Sl} {d' : D} {v : Vt} {s : List Int} {e : Ending} {w' : World} (h : RetOp w base p cs ⟨d', 0, v⟩ s e w') : RetG w base p cs d' v e w' := by
  rcases h with ⟨h, _⟩ | ⟨_, h⟩
  · exact absurd rfl h
  · exact h
theorem Calls.toG {w : World} {base p : Nat} {cs : Nat → Sl} {r : Opn} {d' : D} {v : Vt} {s : List Int} {f : Nat} {args : Array Value} (h : Calls Tryd.prog f args w (RetOp w base p cs r s)) (hr : r = ⟨d', 0, v⟩) : Calls Tryd.prog f args w (RetG w base p cs d' v) := by
  subst hr
  exact h.mono fun _ _ h => RetOp.got h
/-- Open of a clean disk -/
theorem open_clean {w : World} {base p : Nat} {cs : Nat → Sl} {d : D} {f : Nat} {g : Int} {s : List Int} {rs : List (List Int)} {N : Nat} (h : DAt w base p cs d) (hc : Neat d f g s rs) (hN : 0 ≤ d.n ∧ d.n ≤ N) (hk : -9223372036854775808 ≤ d.k ∧ d.k ≤ 9223372036854775807) (hNN : N + 4 ≤ 4611686018427387904) (hrs : rs.length ≤ 5864062014803) (hfl : rs.flatten.length ≤ 1099511627776)
    (A : Option Addr) (n c : Nat) (s' : List Int) (hsn : ∀ (w' : World) (cs' : Nat → Sl), DStep w base p cs w' cs' → RdB w' A n s') (hs' : 8 + s'.length ≤ 1048576) (ht : Table w) :
    ∃ d', Neat d' f g s rs ∧ d'.n = d.n + 1 ∧ d'.k = d.k ∧ openR d s' = ⟨d', 0, ⟨f, g, s, rs⟩⟩ ∧ Calls Tryd.prog 11 #[.pointer (some ⟨p, 0, none⟩), .slice A n c] w (RetG w base p cs d' ⟨f, g, s, rs⟩) := by
  obtain ⟨d', h1, h2, h3, h4⟩ := hc.openR hs'
  have hs := hc.hs
  have hsz := fencs_size g s rs
  exact ⟨d', h2, h3, h4, h1, Calls.toG (open_on h (hc.ok hN hk) A n c s' hsn hs' (by omega) hNN hc.live.off (Nat.le_trans (hc.count 0 (by omega)) (by omega)) (Nat.le_trans (hc.count 1 (by omega)) (by omega)) ht) h1⟩
/-- Open of a new disk -/
theorem open_fresh {w : World} {base p : Nat} {cs : Nat → Sl} (h : DAt w base p cs (diskp.load [] [])) (A : Option Addr) (n c : Nat) (s' : List Int) (hsn : ∀ (w' : World) (cs' : Nat → Sl), DStep w base p cs w' cs' → RdB w' A n s') (hs' : 8 + s'.length ≤ 1048576) (ht : Table w) :
    ∃ d', Neat d' 0 1 s' [] ∧ (0 ≤ d'.n ∧ d'.n ≤ 4) ∧ (-9223372036854775808 ≤ d'.k ∧ d'.k ≤ 9223372036854775807) ∧ openR (diskp.load [] []) s' = ⟨d', 0, ⟨0, 1, s', []⟩⟩ ∧ Calls Tryd.prog 11 #[.pointer (some ⟨p, 0, none⟩), .slice A n c] w (RetG w base p cs d' ⟨0, 1, s', []⟩) := by
  have hby := (hsn w cs (DStep.refl _ _ _ _)).2
  obtain ⟨d', h1, h2⟩ := fresh_open hs' hby
  have hok : Ok (diskp.load [] []) 0 0 := Ok.load [] []
  have h4 := Ok.openR hok s'
  rw [h1] at h4
  have hc : ∀ f, f < 2 → (P (fileB (diskp.load [] []) f)).length ≤ 5864062014804 := fun f hf => by
    have e : fileB (diskp.load [] []) f = [] := by
      match f, hf with
      | 0, _ => rfl
      | 1, _ => rfl
    rw [e, P_nil]
    simp
  exact ⟨d', h2, ⟨h4.n.1, by have := h4.n.2; omega⟩, h4.k, h1, Calls.toG (open_on h hok A n c s' hsn hs' (by omega) (by omega) rfl (hc 0 (by omega)) (hc 1 (by omega)) ht) h1⟩
/-- Open of any disk of bytes while the power stays -/
theorem open_live {w : World} {base p : Nat} {cs : Nat → Sl} {d : D} {S N : Nat} (h : DAt w base p cs d) (hl : Live d) (hb : ∀ i, i < 4 → By (d.b i)) (hok : Ok d S N) (hS : S ≤ 4194304) (hN : N ≤ 4194304) (A : Option Addr) (n c : Nat) (s' : List Int) (hsn : ∀ (w' : World) (cs' : Nat → Sl), DStep w base p cs w' cs' → RdB w' A n s') (hs' : 8 + s'.length ≤ 1048576) (ht : Table w) :
    ∃ d' v, Neat d' v.f v.g v.s v.r ∧ Ok d' (S + 1048584) (N + 4) ∧ openR d s' = ⟨d', 0, v⟩ ∧ Calls Tryd.prog 11 #[.pointer (some ⟨p, 0, none⟩), .slice A n c] w (RetG w base p cs d' v) := by
  have hby := (hsn w cs (DStep.refl _ _ _ _)).2
  obtain ⟨d', v, h1, h2, _⟩ := any_open hl hb hs' hby
  have h4 := Ok.openR hok s'
  rw [h1] at h4
  have hc : ∀ f, f < 2 → (P (fileB d f)).length ≤ 5864062014804 := fun f hf => by
    have e1 := P_len _ (fileB d f) (Nat.le_refl _)
    have e2 : (fileB d f).length ≤ S := by
      unfold fileB
      rw [List.length_append]
      match f, hf with
      | 0, _ => exact hok.s.1
      | 1, _ => exact hok.s.2
    omega
  exact ⟨d', v, h2, h4, h1, Calls.toG (open_on h hok A n c s' hsn hs' (by omega) (by omega) hl.off (hc 0 (by omega)) (hc 1 (by omega)) ht) h1⟩
end Go.Proofs.YtfinaikgikifcaaDoor.vaultk
/- The laws' wakes. -/
namespace Go.Proofs.YtfinaikgikifcaaDoor.vaultk
open Go.RowKit Go.Shelf Go.Proofs.YtfinaikgikifcaaDoorW.PrintWords Go.Proofs.YtfinaikgikifcaaDoor.base Go.Proofs.YtfinaikgikifcaaDoor.mem Go.Proofs.YtfinaikgikifcaaDoor.keep Go.Proofs.YtfinaikgikifcaaDoor.crcp Go.Proofs.YtfinaikgikifcaaDoor.crcw Go.Proofs.YtfinaikgikifcaaDoor.samew Go.Proofs.YtfinaikgikifcaaDoor.framep Go.Proofs.YtfinaikgikifcaaDoor.framew Go.Proofs.YtfinaikgikifcaaDoor.frameit Go.Proofs.YtfinaikgikifcaaDoor.framem Go.Proofs.YtfinaikgikifcaaDoor.framel Go.Proofs.YtfinaikgikifcaaDoor.framea Go.Proofs.YtfinaikgikifcaaDoor.framer Go.Proofs.YtfinaikgikifcaaDoor.framen Go.Proofs.YtfinaikgikifcaaDoor.framek Go.Proofs.YtfinaikgikifcaaDoor.diskp Go.Proofs.YtfinaikgikifcaaDoor.diskr Go.Proofs.YtfinaikgikifcaaDoor.diskw Go.Proofs.YtfinaikgikifcaaDoor.vaultp Go.Proofs.YtfinaikgikifcaaDoor.vaultw Go.Proofs.YtfinaikgikifcaaDoor.vaultl Go.Proofs.YtfinaikgikifcaaDoor.vaulta Go.Proofs.YtfinaikgikifcaaDoor.vaulto

set_option maxHeartbeats 2000000 in
set_option maxRecDepth 100000 in
theorem wakes_any (w : World) (ht : Table w) : Calls Tryd.prog 8 #[] w fun e w' => e = .returned (.bool true) ∧ Below w.heap.size w w' := by
  have HT := Lib.hid ht
  have L1 : Hid (By [115]) := Lib.hid (By_of _ (by decide))
  have L2 : Hid (By [97]) := Lib.hid (By_of _ (by decide))
  clear ht
  have kc := fun (w : World) (C : Array Value) (n c : Nat) => Lib.run_convert_bytes_const (P := Tryd.prog) w 22 5 C n c Tryd.underlying22 Tryd.underlying5
  go_enter Tryd.func8, Tryd.ntmps8
  go_wp2_with fail
  refine (new_any w).mono ?_
  rintro e w1 ⟨p, cs, rfl, hd1, hb1⟩
  have HD1 := Lib.hid hd1
  have HB1 := Lib.hid hb1
  have hs1 := hb1.size
  clear hd1 hb1
  go_wp2_with fail
  have BB := below_alloc (Below.refl w1.heap.size w1) (.cells #[.int .u8 115] 5 (1, 2))
  have HD2 := Lib.hid (HD1.out.below BB)
  have HB2 := Lib.hid (HB1.out.trans (BB.mono hs1))
  have HL2 := Lib.hid (litB w1 (1, 2) [115] (Nat.le_of_ble_eq_true rfl) L1.out)
  have HNF : Hid (¬ Ft p cs w1.heap.size) := Lib.hid fun h => absurd (HD1.out.ft h).2 (Nat.lt_irrefl _)
  have hz2 : (w1.alloc (.cells #[.int .u8 115] 5 (1, 2))).heap.size = w1.heap.size + 1 := by simp
  obtain ⟨d3, hc3, hn3, hk3, ho3, HO⟩ := open_fresh (s' := [115]) HD2.out (some ⟨w1.heap.size, 0, none⟩) 1 1 (fun w' cs' st => RdB.kp HL2.out (fun _ => ⟨_, rfl, HNF.out, by show _ < (w1.alloc _).heap.size; rw [World.size_alloc]; omega⟩) st.keep) (by decide) (HT.out.below HB2.out)
  have HC3 := Lib.hid hc3
  have HO3 := Lib.hid HO
  clear HO ho3 hc3
  refine HO3.out.mono ?_
  rintro e w3 ⟨q, A3, n3, c3, B3, m3, e3, cells3, cs3, rfl, h3, s3, hv3, ⟨hq3, hnq3⟩, hg3⟩
  have HD3 := Lib.hid h3
  have HV3 : Hid (VB w3 q p 0 1 0 0) := Lib.hid hv3
  have HNQ3 := Lib.hid hnq3
  have hB23 := s3.bel
  have HB3 := Lib.hid (HB2.out.trans s3.bel)
  have hr3 := hg3.rd
  have hn1 : n3 = 1 := hr3.len.symm
  subst hn1
  have hm3 : m3 = 0 := by
    have h1 := OwV.len hg3.rows
    have h2 := hg3.each.len
    simp only [List.length_nil] at h2
    omega
  subst hm3
  have hs3 := HB3.out.size
  have str3 : (convert 22 9 (.slice A3 1 c3)).run Tryd.prog w3 = .ok (.string ⟨#[115]⟩) w3 := str hr3 0 c3
  have B4 := below_alloc (Below.refl w3.heap.size w3) (.cells #[.int .u8 97] 5 (1, 2))
  have HD4 := Lib.hid (HD3.out.below B4)
  have HV4 := Lib.hid (HV3.out.below B4)
  have HB4 := Lib.hid (HB3.out.trans (B4.mono hs3))
  have HL4 := Lib.hid (litB w3 (1, 2) [97] (Nat.le_of_ble_eq_true rfl) L2.out)
  clear h3 s3 hv3 hnq3 hg3 hr3 hB23 HO3 B4 BB
  have hqb : w.heap.size ≤ q := by omega
  obtain ⟨d5, ha5, hc5, hn5⟩ := HC3.out.app (ys := [97]) (by decide) 0
  have HA := Lib.hid (vaulta.append_any (v := ⟨0, 1, 0, 0⟩) HD4.out (HC3.out.ok hn3 hk3) HV4.out hqb HNQ3.out (by decide) (some ⟨w3.heap.size, 0, none⟩) 1 1 [97] HL4.out (by decide) (by decide) (by decide) (HT.out.below HB4.out))
  rw [show vappR d3 ⟨0, 1, 0, 0⟩ [97] = (d5, ⟨0, 1, 1, 0⟩, 0) from ha5] at HA
  have HC5 := Lib.hid hc5
  have hok5 := Ok.vapp (HC3.out.ok hn3 hk3) ⟨0, 1, 0, 0⟩ [97]
  rw [show vappR d3 ⟨0, 1, 0, 0⟩ [97] = (d5, ⟨0, 1, 1, 0⟩, 0) from ha5] at hok5
  have HOK5 := Lib.hid hok5
  clear ha5 hc5 hok5
  go_wp2_with fail
  refine HA.out.mono ?_
  rintro e w5 ⟨rfl, cs5, h5, s5, hv5, hnq5⟩
  have HB5 := Lib.hid (HB4.out.trans s5.bel)
  obtain ⟨d6, hc6, hn6, hk6, ho6, HO⟩ := open_clean (s' := []) h5 HC5.out HOK5.out.n HOK5.out.k (by decide) (by decide) (by decide) none 0 0 (fun _ _ _ => nilB _) (by decide) (HT.out.below HB5.out)
  have HO6 := Lib.hid HO
  clear HO str3 h5 s5 hv5 hnq5 ho6 hn6 hk6
  go_wp2_with fail
  refine HO6.out.mono ?_
  rintro e w6 ⟨q6, A6, n6, c6, B6, m6, e6, cells6, cs6, rfl, h6, s6, _, _, hg6⟩
  have HB6 := Lib.hid (HB5.out.trans s6.bel)
  have hr6 := hg6.rd
  have hn1 : n6 = 1 := hr6.len.symm
  subst hn1
  have hm6 : m6 = 1 := by
    have h1 := OwV.len hg6.rows
    have h2 := hg6.each.len
    simp only [List.length_cons, List.length_nil, List.nil_append] at h2
    omega
  subst hm6
  obtain ⟨g6, hB6⟩ := OwV.form hg6.rows (by omega)
  subst hB6
  obtain ⟨a7, m7, c7, he7, ho7⟩ := hg6.each.at_ 0 (by decide)
  have hc7 := (OwV.at_ hg6.rows 0 he7).1
  have hr7 : RdB w6 a7 m7 [97] := ho7.rd
  have hm7 : m7 = 1 := hr7.len.symm
  subst hm7
  have str6 : (convert 22 9 (.slice A6 1 c6)).run Tryd.prog w6 = .ok (.string ⟨#[115]⟩) w6 := str hr6 0 c6
  have str7 : (convert 22 9 (.slice a7 1 c7)).run Tryd.prog w6 = .ok (.string ⟨#[97]⟩) w6 := str hr7 0 c7
  clear h6 s6 hg6 hr6 hr7 ho7 he7
  go_wp2
  go_ret
  exact ⟨rfl, HB6.out⟩
end Go.Proofs.YtfinaikgikifcaaDoor.vaultk
/- How arguments of the laws are opened: slices of bytes, slices of whole numbers, slices of slices of bytes. -/
namespace Go.Proofs.YtfinaikgikifcaaDoor.shapes
open Go.ChangeShapes Go.WideShapes Go.ChangeAt Go.RowKit Go.Proofs.YtfinaikgikifcaaDoorW.PrintWords Go.Proofs.YtfinaikgikifcaaDoor.base

section
variable {H : Type} {enc : TypeId × Value → H} {P : Program} {W : World} {base : Nat}

theorem places_lt {t : TypeId} {v : Value} {d : DataW H} {ps : List MemPlace} (h : DataW.Trod enc P W 0 (fun _ => true) true t v d ps) : ∀ x ∈ ps, x.block < W.heap.size := by
  obtain ⟨m, hm⟩ := h
  exact DataW.trod_lt m _ _ _ hm

/-- a slice of whole numbers -/
theorem openInts {t e : TypeId} {k : IntKind} {v : Value} {d : DataW H} {ps : List MemPlace} (ht : P.underlying t = some (.slice e)) (he : P.underlying e = some (.int k)) (hc : P.cellsOf e = 1)
    (hv : Value.okWide P W .any base t v) (h : DataW.Trod enc P W 0 (fun _ => true) true t v d ps) :
    ∃ (A : Option Addr) (n c : Nat) (xs : List Int), v = .slice A n c ∧ n ≤ c ∧ c ≤ 9223372036854775807 ∧ ReadsInt W k A n xs ∧ (∀ x ∈ xs, (Lit.int k x).wf = true) ∧ (d = .nil ∧ n = 0 ∨ ∃ l r : List (DataW H), d = .slice l r ∧ l.length = n) := by
  obtain ⟨A, n, c, rfl⟩ := okWide_slice ht hv
  obtain ⟨fuel, hf⟩ := h
  rcases open_ints ht he hc hf with ⟨hcs, hx⟩ | ⟨x, l, c', zs, hcs, _, hl, hm, hz, hx, hcell, hwz⟩
  · simp [Value.cells] at hcs
    obtain ⟨rfl, rfl, rfl⟩ := hcs
    exact ⟨none, 0, 0, [], rfl, Nat.le_refl _, by omega, ⟨rfl, by omega, fun h => absurd h (by omega)⟩, by simp, .inl ⟨(Prod.mk.inj hx).1, rfl⟩⟩
  · simp [Value.cells] at hcs
    obtain ⟨rfl, rfl, rfl⟩ := hcs
    simp at hz
    unfold maxLen at hm
    refine ⟨some x, n, c, zs.take n, rfl, hl, hm, ⟨by rw [List.length_take]; omega, by omega, fun h0 => ⟨x, rfl, fun j hj => ?_⟩⟩, fun y hy => hwz y (List.mem_of_mem_take hy), .inr ⟨_, _, (Prod.mk.inj hx).1, by simp [lits]; omega⟩⟩
    rw [hcell j (by omega)]
    simp [List.getD_eq_getElem?_getD, List.getElem?_take, hj]

theorem openBytes {t e : TypeId} {v : Value} {d : DataW H} {ps : List MemPlace} (ht : P.underlying t = some (.slice e)) (he : P.underlying e = some (.int .u8)) (hc : P.cellsOf e = 1)
    (hv : Value.okWide P W .any base t v) (h : DataW.Trod enc P W 0 (fun _ => true) true t v d ps) :
    ∃ (A : Option Addr) (n c : Nat) (xs : List Int), v = .slice A n c ∧ n ≤ c ∧ c ≤ 9223372036854775807 ∧ RdB W A n xs ∧ (d = .nil ∧ n = 0 ∨ ∃ l r : List (DataW H), d = .slice l r ∧ l.length = n) := by
  obtain ⟨A, n, c, xs, h1, h2, h3, h4, h5, h6⟩ := openInts ht he hc hv h
  exact ⟨A, n, c, xs, h1, h2, h3, ⟨h4, By_of _ fun x hx => bounds_u8 (h5 x hx)⟩, h6⟩

/-- a slice of slices of bytes -/
theorem openRows {t e q : TypeId} {v : Value} {d : DataW H} {ps : List MemPlace} (ht : P.underlying t = some (.slice e)) (he : P.underlying e = some (.slice q)) (hq : P.underlying q = some (.int .u8)) (ce : P.cellsOf e = 1) (cq : P.cellsOf q = 1)
    (hv : Value.okWide P W .any base t v) (h : DataW.Trod enc P W 0 (fun _ => true) true t v d ps) :
    ∃ (A : Option Addr) (n c : Nat) (xss : List (List Int)), v = .slice A n c ∧ n ≤ c ∧ c ≤ 9223372036854775807 ∧ RdBB W A n xss ∧
      (d = .nil ∧ n = 0 ∨ ∃ l r : List (DataW H), d = .slice l r ∧ l.length = n ∧ ∀ j, j < n → l[j]? = some .nil ∧ (xss.getD j []).length = 0 ∨ ∃ l' r', l[j]? = some (.slice l' r') ∧ (xss.getD j []).length = l'.length) := by
  obtain ⟨A, n, c, rfl⟩ := okWide_slice ht hv
  obtain ⟨fuel, hf⟩ := h
  rcases Deep.open_int_rows ht he hq ce cq hf with ⟨hcs, hx⟩ | ⟨x, l, c', A', L, C, Z, hcs, _, hl, hm, hx, hcell⟩
  · simp [Value.cells] at hcs
    obtain ⟨rfl, rfl, rfl⟩ := hcs
    exact ⟨none, 0, 0, [], rfl, Nat.le_refl _, by omega, ⟨rfl, by omega, fun h => absurd h (by omega)⟩, .inl ⟨(Prod.mk.inj hx).1, rfl⟩⟩
  · simp [Value.cells] at hcs
    obtain ⟨rfl, rfl, rfl⟩ := hcs
    unfold maxLen at hm
    have hg : ∀ j, j < n → ((List.range n).map fun r => (Z r).take (L r)).getD j [] = (Z j).take (L j) := by
      intro j hj
      simp [List.getD_eq_getElem?_getD, hj]
    refine ⟨some x, n, c, (List.range n).map fun r => (Z r).take (L r), rfl, hl, hm, ⟨by simp, by omega, fun h0 => ⟨x, rfl, fun j hj => ?_⟩⟩, .inr ⟨_, _, (Prod.mk.inj hx).1, by simp, fun j hj => ?_⟩⟩
    · obtain ⟨h1, h2, h3, h4, h5, h6, h7⟩ := hcell j (by omega)
      unfold maxLen at h3
      refine ⟨_, _, _, h1, h2, ?_⟩
      rw [hg j hj]
      refine ⟨⟨by rw [List.length_take]; omega, by omega, fun hp => ?_⟩, By_of _ fun y hy => bounds_u8 (h5 y (List.mem_of_mem_take hy))⟩
      cases ha : A' j with
      | none => have := h6 ha; omega
      | some a' =>
        refine ⟨a', rfl, fun i hi => ?_⟩
        rw [(h7 a' ha).2 i (by omega)]
        simp [List.getD_eq_getElem?_getD, List.getElem?_take, hi]
    · obtain ⟨h1, h2, h3, h4, h5, h6, h7⟩ := hcell j (by omega)
      rw [hg j hj]
      have hl' : ((List.range n).map fun r => Deep.intRow (H := H) .u8 (A' r) (L r) (Z r))[j]? = some (Deep.intRow .u8 (A' j) (L j) (Z j)) := by simp [hj]
      rw [hl']
      have hlen : ((Z j).take (L j)).length = L j := by rw [List.length_take]; omega
      rw [hlen]
      cases ha : A' j with
      | none => left; exact ⟨by simp [Deep.intRow], by have := h6 ha; omega⟩
      | some a' => right; exact ⟨_, _, by simp [Deep.intRow]; exact ⟨rfl, rfl⟩, by simp [lits]; omega⟩

/-- an array of four bytes, by value -/
theorem openBytes4 {t e : TypeId} {v : Value} {d : DataW H} {ps : List MemPlace} (ht : P.underlying t = some (.array 4 e)) (he : P.underlying e = some (.int .u8)) (hc : P.cellsOf e = 1) (hC : P.cellsOf t = 4)
    (hv : Value.okWide P W .any base t v) (h : DataW.Trod enc P W 0 (fun _ => true) true t v d ps) :
    ∃ m0 m1 m2 m3 : Int, v = .agg #[.int .u8 m0, .int .u8 m1, .int .u8 m2, .int .u8 m3] ∧ By [m0, m1, m2, m3] := by
  simp only [Value.okWide, ht] at hv
  obtain ⟨cs, rfl, hsz, _⟩ := hv
  obtain ⟨c0, c1, c2, c3, rfl⟩ := Joins.array4 (hsz.trans hC)
  obtain ⟨fuel, hf⟩ := h
  obtain ⟨xs, m, _, _, _, hl, hel⟩ := DataW.trod_array ht hf
  have one : ∀ (i : Nat) (hi : i < 4) (c : Value), [c0, c1, c2, c3][i]? = some c → ∃ n, c = .int .u8 n ∧ 0 ≤ n ∧ n ≤ 255 := by
    intro i hi c hci
    have h1 := hel i hi
    rw [hc, Nat.mul_one] at h1
    have h2 : (([c0, c1, c2, c3] : List Value).drop i).take 1 = [c] := by
      match i, hi, hci with
      | 0, _, hci => simp at hci; subst hci; rfl
      | 1, _, hci => simp at hci; subst hci; rfl
      | 2, _, hci => simp at hci; subst hci; rfl
      | 3, _, hci => simp at hci; subst hci; rfl
    have h3 : DataW.trod enc P W 0 (fun _ => true) true m e [c] = xs[i]? := by rw [← h2]; exact h1
    rw [List.getElem?_eq_getElem (by omega)] at h3
    obtain ⟨n, hn, _, hw⟩ := DataW.trod_int he h3
    simp at hn
    exact ⟨n, hn, bounds_u8 hw⟩
  obtain ⟨m0, rfl, h0⟩ := one 0 (by decide) c0 rfl
  obtain ⟨m1, rfl, h1⟩ := one 1 (by decide) c1 rfl
  obtain ⟨m2, rfl, h2⟩ := one 2 (by decide) c2 rfl
  obtain ⟨m3, rfl, h3⟩ := one 3 (by decide) c3 rfl
  refine ⟨m0, m1, m2, m3, rfl, By_of _ fun x hx => ?_⟩
  simp only [List.mem_cons, List.not_mem_nil, or_false] at hx
  rcases hx with rfl | rfl | rfl | rfl
  · exact h0
  · exact h1
  · exact h2
  · exact h3
end
end Go.Proofs.YtfinaikgikifcaaDoor.shapes
/- A slice of structs of three whole numbers and a slice of bytes: a script, opened. -/
namespace Go.Proofs.YtfinaikgikifcaaDoor.vops
open Go.ChangeShapes Go.WideShapes Go.ChangeAt Go.RowKit Go.Proofs.YtfinaikgikifcaaDoorW.PrintWords Go.Proofs.YtfinaikgikifcaaDoor.base Go.Proofs.YtfinaikgikifcaaDoor.mem

/-- a call of a script -/
structure O where
  kd : Int
  n : Int
  k : Int
  A : Option Addr
  m : Nat
  c : Nat
  ys : List Int
def nilO : O := ⟨0, 0, 0, none, 0, 0, []⟩
/-- its bounds -/
structure O.I (o : O) : Prop where
  kd : -9223372036854775808 ≤ o.kd ∧ o.kd ≤ 9223372036854775807
  n : -9223372036854775808 ≤ o.n ∧ o.n ≤ 9223372036854775807
  k : -9223372036854775808 ≤ o.k ∧ o.k ≤ 9223372036854775807
  c : o.m ≤ o.c
  z : o.m ≤ 140737488351232
/-- four cells behind a place -/
def At (w : World) (b p : Nat) (o : O) : Prop := w.cell? ⟨b, p, none⟩ = some (.int .i64 o.kd) ∧ w.cell? ⟨b, p + 1, none⟩ = some (.int .i64 o.n) ∧ w.cell? ⟨b, p + 2, none⟩ = some (.int .i64 o.k) ∧ w.cell? ⟨b, p + 3, none⟩ = some (.slice o.A o.m o.c)
theorem At.below {w w1 : World} {b p : Nat} {o : O} (h : At w b p o) (hb : Below w.heap.size w w1) : At w1 b p o :=
  ⟨pw_cell_below hb h.1, pw_cell_below hb h.2.1, pw_cell_below hb h.2.2.1, pw_cell_below hb h.2.2.2⟩
structure RdO (w : World) (A : Option Addr) (n : Nat) (os : List O) : Prop where
  len : os.length = n
  max : n ≤ 9223372036854775807
  at_ : 0 < n → ∃ b off, A = some ⟨b, off, none⟩ ∧ ∀ j, j < n → At w b (off + j * 4) (os.getD j nilO)
  rd : ∀ o ∈ os, RdB w o.A o.m o.ys
  ok : ∀ o ∈ os, o.I
theorem RdO.below {w w1 : World} {A : Option Addr} {n : Nat} {os : List O} (h : RdO w A n os) (hb : Below w.heap.size w w1) : RdO w1 A n os :=
  ⟨h.len, h.max, fun hn => by
    obtain ⟨b, off, e, hc⟩ := h.at_ hn
    exact ⟨b, off, e, fun j hj => (hc j hj).below hb⟩, fun o ho => (h.rd o ho).below hb, h.ok⟩
theorem take_snocO (os : List O) (k : Nat) (h : k < os.length) : os.take (k + 1) = os.take k ++ [os.getD k nilO] := by
  rw [List.take_add_one, List.getD_eq_getElem?_getD, List.getElem?_eq_getElem h]; rfl
theorem getD_memO (os : List O) (k : Nat) (h : k < os.length) : os.getD k nilO ∈ os := by
  rw [List.getD_eq_getElem?_getD, List.getElem?_eq_getElem h]; simp
def sumB (os : List O) : Nat := (os.map fun o => o.ys.length).sum
theorem sumB_snoc (os : List O) (o : O) : sumB (os ++ [o]) = sumB os + o.ys.length := by simp [sumB]
theorem sumB_take (os : List O) (k : Nat) : sumB (os.take k) ≤ sumB os := by
  induction os generalizing k with
  | nil => simp [sumB]
  | cons o os ih =>
    cases k with
    | zero => simp [sumB]
    | succ k => have := ih k; simp [sumB] at *; omega
theorem sumB_mem (os : List O) {o : O} (h : o ∈ os) : o.ys.length ≤ sumB os := by
  induction os with
  | nil => cases h
  | cons x os ih =>
    rcases List.mem_cons.1 h with rfl | h
    · simp [sumB]
    · have := ih h; simp [sumB] at *; omega
section
variable {H : Type} {enc : TypeId × Value → H} {P : Program} {W : World} {base : Nat}
theorem weights_all {l : List (DataW H)} {d : DataW H} {e : TypeId} (h : d ∈ l) {n : Nat} (hn : n ∈ d.weights P e) : n ∈ DataW.weightsAll P e l := by
  induction l with
  | nil => cases h
  | cons x l ih =>
    rw [DataW.weightsAll, List.mem_append]
    rcases List.mem_cons.1 h with rfl | h
    · exact .inl hn
    · exact .inr (ih h)
theorem openVOps {t e ti ts tb : TypeId} {f0 f1 f2 f3 : Field} {v : Value} {d : DataW H} {ps : List MemPlace} (ht : P.underlying t = some (.slice e)) (he : P.underlying e = some (.struct #[f0, f1, f2, f3])) (hi : P.underlying ti = some (.int .i64)) (hs : P.underlying ts = some (.slice tb)) (hb : P.underlying tb = some (.int .u8)) (ci : P.cellsOf ti = 1) (cs1 : P.cellsOf ts = 1) (cb : P.cellsOf tb = 1) (hC : P.cellsOf e = 4) (hB : P.bytesOf tb = 1)
    (hT : [f0, f1, f2, f3].map (fun f => (f.type, f.offset)) = [(ti, 0), (ti, 1), (ti, 2), (ts, 3)])
    (hv : Value.okWide P W .any base t v) (hz : ∀ n ∈ d.weights P t, n ≤ reachBytes) (h : DataW.Trod enc P W 0 (fun _ => true) true t v d ps) :
    ∃ (A : Option Addr) (n c : Nat) (os : List O), v = .slice A n c ∧ n ≤ c ∧ RdO W A n os := by
  obtain ⟨A, n, c, rfl⟩ := okWide_slice ht hv
  obtain ⟨fuel, hf⟩ := h
  have hT' := hT
  simp only [List.map_cons, List.map_nil, List.cons.injEq, Prod.mk.injEq, and_true] at hT
  obtain ⟨⟨t0, o0⟩, ⟨t1, o1⟩, ⟨t2, o2⟩, t3, o3⟩ := hT
  rcases Deep.open_slice ht hf with ⟨hcs, hx⟩ | ⟨a, l, cap, m, fu, D, Pl, hcs, _, hl, hm, hmm, hx0, hx⟩
  · simp [Value.cells] at hcs
    obtain ⟨rfl, rfl, rfl⟩ := hcs
    exact ⟨none, 0, 0, [], rfl, Nat.le_refl _, ⟨rfl, by omega, fun h => absurd h (by omega), by simp, by simp⟩⟩
  · simp [Value.cells] at hcs
    obtain ⟨rfl, rfl, rfl⟩ := hcs
    unfold maxLen at hm
    simp at hmm
    subst hmm
    have hwt : ∀ j, j < n → ∀ q ∈ (D j).weights P e, q ≤ reachBytes := fun j hj q hq => by
      refine hz q ?_
      rw [(Prod.mk.inj hx0).1]
      simp only [DataW.weights, ht]
      exact List.mem_cons_of_mem _ (List.mem_append_left _ (weights_all (List.mem_map.2 ⟨j, by simpa using hj, rfl⟩) hq))
    have one : ∀ j, j < n → ∃ o : O, (W.cell? (a.add (j * 4)) = some (.int .i64 o.kd) ∧ W.cell? (a.add (j * 4 + 1)) = some (.int .i64 o.n) ∧ W.cell? (a.add (j * 4 + 2)) = some (.int .i64 o.k) ∧ W.cell? (a.add (j * 4 + 3)) = some (.slice o.A o.m o.c)) ∧ RdB W o.A o.m o.ys ∧ o.I := by
      intro j hj
      obtain ⟨cs', h1, h2⟩ := hx j (by omega)
      rw [hC] at h1
      obtain ⟨_, hlen, hcell⟩ := World.cells?_some h1
      obtain ⟨xs, k, hk, hxy, _, hxl, hel⟩ := DataW.trod_struct he h2
      match xs, hxl, cs', hlen with
      | [y0, y1, y2, y3], _, [c0, c1, c2, c3], _ =>
        have hD : D j = .agg [y0.1, y1.1, y2.1, y3.1] := (Prod.mk.inj hxy).1
        have hw3 : ∀ q ∈ (y3.1).weights P ts, q ≤ reachBytes := fun q hq => by
          refine hwt j hj q ?_
          rw [hD]
          simp only [DataW.weights, he, List.map_cons, List.map_nil, DataW.weightsEach, t0, t1, t2, t3]
          simp [hq]
        have onei : ∀ (c : Value) (y : DataW H × List MemPlace), DataW.trod enc P W 0 (fun _ => true) true k ti [c] = some y → ∃ n, c = .int .i64 n ∧ -9223372036854775808 ≤ n ∧ n ≤ 9223372036854775807 := by
          intro c y h3
          obtain ⟨n, hn, _, hw⟩ := DataW.trod_int hi h3
          simp at hn
          exact ⟨n, hn, bounds_i64 hw⟩
        have ones : ∀ (c : Value) (y : DataW H × List MemPlace), (∀ q ∈ (y.1).weights P ts, q ≤ reachBytes) → DataW.trod enc P W 0 (fun _ => true) true k ts [c] = some y → ∃ (A : Option Addr) (m cc : Nat) (ys : List Int), c = .slice A m cc ∧ m ≤ cc ∧ RdB W A m ys ∧ m ≤ 140737488351232 := by
          intro c y hq h3
          rcases open_ints hs hb cb h3 with ⟨hcs, hx⟩ | ⟨x, l, c', zs, hcs, _, hl, hm, hz, hx, hcell, hwz⟩
          · simp at hcs
            subst hcs
            exact ⟨none, 0, 0, [], rfl, Nat.le_refl _, ⟨⟨rfl, by omega, fun h => absurd h (by omega)⟩, By_of _ (by simp)⟩, by omega⟩
          · simp at hcs
            subst hcs
            simp at hz
            unfold maxLen at hm
            refine ⟨some x, l, c', zs.take l, rfl, hl, ⟨⟨by rw [List.length_take]; omega, by omega, fun h0 => ⟨x, rfl, fun j hj => ?_⟩⟩, By_of _ fun y hy => bounds_u8 (hwz y (List.mem_of_mem_take hy))⟩, ?_⟩
            · rw [hcell j (by omega)]
              simp [List.getD_eq_getElem?_getD, List.getElem?_take, hj]
            · have := hq (((lits (H := H) .u8 (zs.take l)).length + (lits (H := H) .u8 (zs.drop l)).length) * P.bytesOf tb) (by
                rw [(Prod.mk.inj hx).1]
                simp only [DataW.weights, hs]
                exact List.mem_cons_self)
              rw [hB] at this
              have hr : reachBytes = 140737488351232 := rfl
              rw [hr] at this
              simp [lits] at this
              omega
        have g0 := hel 0 f0 rfl
        have g1 := hel 1 f1 rfl
        have g2 := hel 2 f2 rfl
        have g3 := hel 3 f3 rfl
        simp [t0, t1, t2, t3, o0, o1, o2, o3, ci, cs1] at g0 g1 g2 g3
        obtain ⟨n0, rfl, b0⟩ := onei _ _ g0
        obtain ⟨n1, rfl, b1⟩ := onei _ _ g1
        obtain ⟨n2, rfl, b2⟩ := onei _ _ g2
        obtain ⟨A3, m3, c3, ys3, rfl, b3, r3, z3⟩ := ones _ _ hw3 g3
        have e0 := hcell 0 (by omega)
        have e1 := hcell 1 (by omega)
        have e2 := hcell 2 (by omega)
        have e3 := hcell 3 (by omega)
        rw [Deep.add_add] at e0 e1 e2 e3
        exact ⟨⟨n0, n1, n2, A3, m3, c3, ys3⟩, ⟨by simpa using e0, by simpa using e1, by simpa using e2, by simpa using e3⟩, r3, ⟨b0, b1, b2, b3, z3⟩⟩
    haveI : Inhabited O := ⟨nilO⟩
    obtain ⟨q, hq⟩ := Deep.choose_lt one
    have hgd : ∀ j, j < n → ((List.range n).map q).getD j nilO = q j := fun j hj => by simp [List.getD_eq_getElem?_getD, hj]
    refine ⟨some a, n, m, (List.range n).map q, rfl, hl, ⟨by simp, by omega, fun h0 => ?_, fun o ho => ?_, fun o ho => ?_⟩⟩
    · have hs : a.spot = none := by
        have := World.cell?_spot (hq 0 h0).1.1
        simpa [Addr.add] using this
      obtain ⟨b, off, sp⟩ := a
      subst hs
      have ap : ∀ k, (⟨b, off, none⟩ : Addr).add k = ⟨b, off + k, none⟩ := fun k => by unfold Addr.add; split <;> simp_all
      refine ⟨b, off, rfl, fun j hj => ?_⟩
      rw [hgd j hj]
      obtain ⟨g0, g1, g2, g3⟩ := (hq j hj).1
      rw [ap] at g0 g1 g2 g3
      exact ⟨g0, by simpa [Nat.add_assoc] using g1, by simpa [Nat.add_assoc] using g2, by simpa [Nat.add_assoc] using g3⟩
    · simp at ho
      obtain ⟨j, hj, rfl⟩ := ho
      exact (hq j hj).2.1
    · simp at ho
      obtain ⟨j, hj, rfl⟩ := ho
      exact (hq j hj).2.2
end
end Go.Proofs.YtfinaikgikifcaaDoor.vops
/- What the laws' heavy computes of a script. -/
namespace Go.Proofs.YtfinaikgikifcaaDoor.vaulth
open Go.RowKit Go.Shelf Go.Proofs.YtfinaikgikifcaaDoorW.PrintWords Go.Proofs.YtfinaikgikifcaaDoor.base Go.Proofs.YtfinaikgikifcaaDoor.mem Go.Proofs.YtfinaikgikifcaaDoor.keep Go.Proofs.YtfinaikgikifcaaDoor.vops

set_option maxHeartbeats 1000000 in
theorem heavy_any (A : Option Addr) (n c : Nat) (A' : Option Addr) (n' c' : Nat) (A'' : Option Addr) (k c'' : Nat) (os : List O) (w : World) (hn : n ≤ 140737488351232) (hn' : n' ≤ 140737488351232) (ho : RdO w A'' k os) :
    Calls Tryd.prog 9 #[.slice A n c, .slice A' n' c', .slice A'' k c''] w fun e w' => e = .returned (.bool (decide (2097152 < n + n' + sumB os ∨ 1024 < k))) ∧ Below w.heap.size w w' := by
  have HO := Lib.hid ho
  have hlen := ho.len
  have hmax := ho.max
  clear ho
  go_enter Tryd.func9, Tryd.ntmps9
  go_wp2
  go_loopw [7, 17] (fun s i wr => ∃ j : Nat, j ≤ k ∧ i = .int .i64 j ∧ s = .int .i64 ((n + n' + sumB (os.take j) : Nat) : Int) ∧ (0 < j → n + n' + sumB (os.take j) ≤ 2097152) ∧ Aside0 (Below w.heap.size w wr)) (fun _ i _ => k - (intOf i).toNat)
  case atStart => exact ⟨0, by omega, rfl, by simp [sumB], fun h => absurd h (by omega), ⟨Below.refl _ _⟩⟩
  case round =>
    obtain ⟨j, hj, rfl, rfl, hsm, HB⟩ := hrel
    have hs := HB.out.size
    by_cases hlt : j < k
    · have HO' := Lib.hid (HO.out.below HB.out)
      obtain ⟨b, off, rfl, hat⟩ := HO'.out.at_ (by omega)
      obtain ⟨e0, e1, e2, e3⟩ := hat j hlt
      have hmem := getD_memO os j (by omega)
      have hI := HO.out.ok _ hmem
      have hrd := HO.out.rd _ hmem
      have HT := Lib.hid (take_snocO os j (by omega))
      have HS := Lib.hid (sumB_snoc (os.take j) (os.getD j nilO))
      have hsb := sumB_mem os hmem
      have hst := sumB_take os (j + 1)
      rw [HT.out, HS.out] at hst
      have hz := hI.z
      have hl := hrd.len
      clear hat hmem hI hrd
      have hbnd : n + n' + sumB (os.take j) ≤ 281474976702464 := by
        rcases Nat.eq_zero_or_pos j with h0 | h0
        · subst h0
          rw [List.take_zero]
          show n + n' + 0 ≤ _
          omega
        · have := hsm h0
          omega
      generalize os.getD j nilO = o at *
      obtain ⟨kd, on, ok, oA, om, oc, ys⟩ := o
      dsimp only at *
      have HB2 := Lib.hid (HB.out.alloc hs (.cells #[.int .i64 kd, .int .i64 on, .int .i64 ok, .slice oA om oc] 41))
      have c3 : (wr.alloc (.cells #[.int .i64 kd, .int .i64 on, .int .i64 ok, .slice oA om oc] 41)).cell? ⟨wr.heap.size, 3, none⟩ = some (.slice oA om oc) := by simp
      generalize hsj : sumB (os.take j) = sj at *
      have HSJ := Lib.hid hsj
      clear hsj hsm
      have e4 : (((n + n' + sj : Nat) : Int)) = (n : Int) + (n' : Int) + (sj : Int) := by omega
      by_cases hbig : 2097152 < n + n' + sj + om
      · have hd : decide (2097152 < n + n' + sumB os ∨ 1024 < k) = true := decide_eq_true (.inl (by omega))
        have HD := Lib.hid hd
        clear hd
        go_wp2
        go_ret
        exact ⟨congrArg (fun b => Ending.returned (Value.bool b)) HD.out.symm, HB2.out⟩
      · go_wp2
        go_roundw
        case rel => exact ⟨j + 1, by omega, by go_num, by rw [HT.out, HS.out]; show Value.int .i64 _ = Value.int .i64 ((n + n' + (sj + ys.length) : Nat) : Int); rw [hl]; congr 1; omega, fun _ => by rw [HT.out, HS.out]; show n + n' + (sj + ys.length) ≤ _; omega, ⟨HB2.out⟩⟩
        case measure => simp [intOf]; omega
    · clear HO
      obtain rfl : j = k := by omega
      have ht : os.take j = os := List.take_of_length_le (by omega)
      rw [ht]
      by_cases hbig : 2097152 < n + n' + sumB os
      · have HD : Hid (decide (2097152 < n + n' + sumB os ∨ 1024 < j) = true) := Lib.hid (decide_eq_true (.inl hbig))
        have d1 : decide ((2097152 : Int) < (n : Int) + (n' : Int) + (sumB os : Int)) = true := decide_eq_true (by omega)
        go_wp2
        go_ret
        exact ⟨congrArg (fun b => Ending.returned (Value.bool b)) HD.out.symm, HB.out⟩
      · by_cases hlong : 1024 < j
        · have HD : Hid (decide (2097152 < n + n' + sumB os ∨ 1024 < j) = true) := Lib.hid (decide_eq_true (.inr hlong))
          have d1 : decide ((2097152 : Int) < (n : Int) + (n' : Int) + (sumB os : Int)) = false := decide_eq_false (by omega)
          have d2 : decide ((1024 : Int) < (j : Int)) = true := decide_eq_true (by omega)
          go_wp2
          go_ret
          exact ⟨congrArg (fun b => Ending.returned (Value.bool b)) HD.out.symm, HB.out⟩
        · have HD : Hid (decide (2097152 < n + n' + sumB os ∨ 1024 < j) = false) := Lib.hid (decide_eq_false (by omega))
          have d1 : decide ((2097152 : Int) < (n : Int) + (n' : Int) + (sumB os : Int)) = false := decide_eq_false (by omega)
          have d2 : decide ((1024 : Int) < (j : Int)) = false := decide_eq_false (by omega)
          go_wp2
          go_ret
          exact ⟨congrArg (fun b => Ending.returned (Value.bool b)) HD.out.symm, HB.out⟩
end Go.Proofs.YtfinaikgikifcaaDoor.vaulth
/- A snapshot and records of the law's own, beside a disk and a vault. -/
namespace Go.Proofs.YtfinaikgikifcaaDoor.vaultr
open Go.RowKit Go.Shelf Go.Proofs.YtfinaikgikifcaaDoorW.PrintWords Go.Proofs.YtfinaikgikifcaaDoor.base Go.Proofs.YtfinaikgikifcaaDoor.mem Go.Proofs.YtfinaikgikifcaaDoor.keep Go.Proofs.YtfinaikgikifcaaDoor.samew Go.Proofs.YtfinaikgikifcaaDoor.frameit Go.Proofs.YtfinaikgikifcaaDoor.framea Go.Proofs.YtfinaikgikifcaaDoor.framer Go.Proofs.YtfinaikgikifcaaDoor.framek Go.Proofs.YtfinaikgikifcaaDoor.vaulto

/-- a slice of bytes in a block of bytes of the set -/
structure SnapT (P : Nat → Prop) (W : World) (A : Option Addr) (n c : Nat) (xs : List Int) : Prop where
  rd : RdB W A n xs
  lies : 0 < n → ∃ (g : Nat) (cur : Array Value) (fr : Nat × Nat), A = some ⟨g, 0, none⟩ ∧ W.heap[g]? = some (.cells cur 5 fr) ∧ P g
/-- slices of bytes of the law's own, each in a block of its own -/
structure RecT (P : Nat → Prop) (W : World) (base : Nat) (A : Option Addr) (n c : Nat) (cells : List Value) (xss : List (List Int)) : Prop where
  rows : OwV W base A n c cells
  head : ∀ j, (Value.slice A n c).ownBlock = some j → P j
  each : Rws W base cells xss
  lies : ∀ (i j : Nat) (a : Option Addr) (n c : Nat), cells[i]? = some (Value.slice a n c) → (Value.slice a n c).ownBlock = some j → P j
section
variable {P Q : Nat → Prop} {W W1 : World} {base n c : Nat} {A : Option Addr} {xs : List Int} {cells : List Value} {xss : List (List Int)}
theorem SnapT.blocks (h : SnapT P W A n c xs) (hb : ∀ g cur fr, W.heap[g]? = some (.cells cur 5 fr) → P g → W1.heap[g]? = W.heap[g]?) : SnapT P W1 A n c xs := by
  refine ⟨⟨⟨h.rd.1.1, h.rd.1.2.1, fun hn => ?_⟩, h.rd.2⟩, fun hn => ?_⟩
  · obtain ⟨g, cur, fr, rfl, h1, h2⟩ := h.lies hn
    obtain ⟨ad, ha, hc⟩ := h.rd.1.2.2 hn
    cases ha
    refine ⟨_, rfl, fun j hj => ?_⟩
    rw [← hc j hj]
    have e : ((⟨g, 0, none⟩ : Addr).add j).block = g := by rw [add_plain]
    exact World.cell?_of_block (by rw [e]; exact hb g cur fr h1 h2)
  · obtain ⟨g, cur, fr, e, h1, h2⟩ := h.lies hn
    exact ⟨g, cur, fr, e, by rw [hb g cur fr h1 h2]; exact h1, h2⟩
theorem SnapT.kp (h : SnapT P W A n c xs) (hk : Kp P W W1) : SnapT P W1 A n c xs := h.blocks fun g cur fr h1 h2 => hk.2 g h2 (Array.getElem?_eq_some_iff.1 h1).1
theorem SnapT.below (h : SnapT P W A n c xs) (hb : Below W.heap.size W W1) : SnapT P W1 A n c xs := h.blocks fun g cur fr h1 _ => hb.block g (Array.getElem?_eq_some_iff.1 h1).1
theorem SnapT.mono (h : SnapT P W A n c xs) (hq : ∀ j, j < W.heap.size → P j → Q j) : SnapT Q W A n c xs := ⟨h.rd, fun hn => by
  obtain ⟨g, cur, fr, e, h1, h2⟩ := h.lies hn
  exact ⟨g, cur, fr, e, h1, hq g (Array.getElem?_eq_some_iff.1 h1).1 h2⟩⟩
theorem SnapT.own (h : OwB W base A n c xs) (hp : ∀ j, base ≤ j → j < W.heap.size → P j) : SnapT P W A n c xs := ⟨h.rd, fun hn => by
  rcases h.1.2 with ⟨hv, h0⟩ | ⟨g, cap, cur, hv, h1, h2, h3⟩
  · omega
  · injection hv with e _ _
    exact ⟨g, cur, (0, 0), e, h2, hp g h1 (Array.getElem?_eq_some_iff.1 h2).1⟩⟩
theorem SnapT.lit (W : World) (fr : Nat × Nat) (xs : List Int) (h : xs.length ≤ 9223372036854775807) (hb : By xs) (hp : P W.heap.size) : SnapT P (W.alloc (.cells (nums .u8 xs).toArray 5 fr)) (some ⟨W.heap.size, 0, none⟩) xs.length xs.length xs :=
  ⟨litB W fr xs h hb, fun _ => ⟨_, _, fr, rfl, World.alloc_heap_new W _, hp⟩⟩
/-- a block of another type is turned -/
theorem SnapT.other (h : SnapT P W A n c xs) {B : Option Addr} {m e b : Nat} {cs : List Value} (ho : OwV W b B m e cs) (hg : W.grownBy W1 (Value.slice B m e).ownBlock) : SnapT P W1 A n c xs :=
  h.blocks fun g cur fr h1 _ => hg.block g (Array.getElem?_eq_some_iff.1 h1).1 (fun e => by
    rcases ho.2 with ⟨hv, _⟩ | ⟨g', cap, cur', hv, _, hgb, _⟩
    · rw [hv] at e; cases e
    · rw [hv] at e
      obtain rfl : g = g' := by simpa [Value.ownBlock] using e
      rw [h1] at hgb
      injection hgb with hgb
      injection hgb with _ e2 _
      revert e2
      decide)
theorem RecT.nil (P : Nat → Prop) (W : World) (base : Nat) : RecT P W base none 0 0 [] [] := ⟨OwV.nil _ _, (fun j hj => by cases hj), Rws.nil _ _, (fun i j a n c hi => by simp at hi)⟩
theorem RecT.kp (h : RecT P W base A n c cells xss) (hk : Kp P W W1) : RecT P W1 base A n c cells xss := by
  refine ⟨ownV_kp h.rows hk h.head, h.head, ⟨h.each.len, fun j hj => ?_, h.each.apart⟩, h.lies⟩
  obtain ⟨a, m', c', e', ho⟩ := h.each.at_ j hj
  exact ⟨a, m', c', e', own_kp ho hk fun i hi => h.lies j i a m' c' e' hi⟩
theorem RecT.below (h : RecT P W base A n c cells xss) (hb : Below W.heap.size W W1) : RecT P W1 base A n c cells xss :=
  ⟨OwV.below h.rows hb, h.head, h.each.map fun _ _ _ _ ho => ho.below hb, h.lies⟩
theorem RecT.mono (h : RecT P W base A n c cells xss) (hq : ∀ j, j < W.heap.size → P j → Q j) : RecT Q W base A n c cells xss :=
  ⟨h.rows, fun j hj => hq j (OwV.blk h.rows j hj).2 (h.head j hj), h.each, fun i j a n c hi hj => by
    obtain ⟨a', m', c', e', ho⟩ := h.each.at_ i (by rw [← h.each.len]; exact (List.getElem?_eq_some_iff.1 hi).1)
    have e2 := e'
    rw [hi] at e2
    cases e2
    exact hq j (OwB.blk ho j hj).2 (h.lies i j _ _ _ hi hj)⟩
theorem SnapT.step (h : SnapT P W A n c xs) (hk : Kp P W W1) (hq : ∀ j, j < W.heap.size → P j → Q j) : SnapT Q W1 A n c xs :=
  ((h.mono (Q := fun j => P j ∧ j < W.heap.size) fun j hj hp => ⟨hp, hj⟩).kp (hk.mono fun _ _ h => h.1)).mono fun j _ h => hq j h.2 h.1
theorem RecT.step (h : RecT P W base A n c cells xss) (hk : Kp P W W1) (hq : ∀ j, j < W.heap.size → P j → Q j) : RecT Q W1 base A n c cells xss :=
  ((h.mono (Q := fun j => P j ∧ j < W.heap.size) fun j hj hp => ⟨hp, hj⟩).kp (hk.mono fun _ _ h => h.1)).mono fun j _ h => hq j h.2 h.1
theorem RecT.rd (h : RecT P W base A n c cells xss) (hn : n ≤ 9223372036854775807) : RdBB W A n xss := OwV.rd h.rows h.each.of hn
theorem RecT.len (h : RecT P W base A n c cells xss) : n = xss.length := by rw [← h.each.len]; exact (OwV.len h.rows).symm
/-- a record more -/
theorem RecT.snoc {W0 W2 : World} (h0 : RecT P W0 base A n c cells xss) (h : RecT P W base A n c cells xss) {B a : Option Addr} {b m e m2 e2 : Nat} {ys : List Int} (hy : OwB W b a m e ys) (hb : base ≤ b) (hB : W0.heap.size ≤ b)
    (ho : OwV W2 base B m2 e2 (cells ++ [.slice a m e])) (hg : W.grownBy W2 (Value.slice A n c).ownBlock) (hob : ∀ j, (Value.slice B m2 e2).ownBlock = some j → (Value.slice A n c).ownBlock = some j ∨ W.heap.size ≤ j) (hp : ∀ j, b ≤ j → P j) (hWb : b ≤ W.heap.size) :
    RecT P W2 base B m2 e2 (cells ++ [.slice a m e]) (xss ++ [ys]) := by
  have hk : ∀ a m c ys b, OwB W b a m c ys → OwB W2 b a m c ys := fun a m c ys b hx => OwB.keptT hx hg (OwV.row h.rows)
  refine ⟨ho, fun j hj => ?_, Rws.snoc h0.each (h.each.map fun a m c ys hx => hk a m c ys _ hx) hB hb (hk _ _ _ _ _ hy), fun i j a' n' c' hi hj => ?_⟩
  · rcases hob j hj with h1 | h1
    · exact h.head j h1
    · exact hp j (by omega)
  · rcases Nat.lt_or_ge i cells.length with hl | hl
    · rw [List.getElem?_append_left hl] at hi
      exact h.lies i j a' n' c' hi hj
    · rw [List.getElem?_append_right hl] at hi
      have : i - cells.length = 0 := by
        have := (List.getElem?_eq_some_iff.1 hi).1
        simp at this
        omega
      rw [this] at hi
      simp at hi
      obtain ⟨rfl, rfl, rfl⟩ := hi
      exact hp j (OwB.blk hy j hj).1
end
section
variable {ops : Array Oper} {rest : List Oper} {o : Oper} {a : Act} {Q : Exit → Act → World → Prop}
/-- append of one slice, told of where it lies: behind 'at_builtin' -/
theorem appVH {w0 W : World} {base : Nat} (hgd : o.guard = none) (s x : Operand)
    (ho : o.op = .call { callee := .builtin .append, args := #[s, x], argTypes := #[28, 28] })
    {A : Option Addr} {n c : Nat} {cells : List Value} {A' : Option Addr} {m c' : Nat} (hs : a.eval s = .slice A n c) (hx : a.eval x = .slice (some ⟨W.heap.size, 0, none⟩) 1 1)
    (HO : OwV W base A n c cells) (HB : Below base w0 W) (hbase : base ≤ W.heap.size) (hl : (n + 1) * 24 ≤ 140737488355328)
    (h : ∀ A1 n1 c1 w1, OwV w1 base A1 n1 c1 (cells ++ [.slice A' m c']) → Below base w0 w1 → W.grownBy w1 (Value.slice A n c).ownBlock → (∀ j, (Value.slice A1 n1 c1).ownBlock = some j → (Value.slice A n c).ownBlock = some j ∨ W.heap.size ≤ j) → wpList Tryd.prog ops Q rest (a.put o.dst (.slice A1 n1 c1)) w1) : wpList Tryd.prog ops Q (o :: rest) a (W.alloc (.cells #[.slice A' m c'] 22)) := by
  refine print_append base hgd s x 28 22 (.slice none 0 0) 24 ho Tryd.underlying28 infoS rfl (by decide) (.slice A n c) cells (.slice A' m c') hs hx rfl (by rw [HO.len]; exact HO) HB hbase (by rw [HO.len]; exact hl) ?_
  intro v1 w1 ho hb hg hob
  obtain ⟨A1, c1, rfl⟩ := own_slice ho
  refine h A1 _ c1 w1 ho hb hg (fun j hj => ?_)
  rcases hob with e | ⟨b, e, hbw⟩
  · exact .inl (e.symm.trans hj)
  · rw [e] at hj
    cases hj
    exact .inr hbw
end
end Go.Proofs.YtfinaikgikifcaaDoor.vaultr
/- The walk of the law VaultGoes. -/
namespace Go.Proofs.YtfinaikgikifcaaDoor.vaultk3
open Go.RowKit Go.Shelf Go.Proofs.YtfinaikgikifcaaDoorW.PrintWords Go.Proofs.YtfinaikgikifcaaDoor.base Go.Proofs.YtfinaikgikifcaaDoor.mem Go.Proofs.YtfinaikgikifcaaDoor.keep Go.Proofs.YtfinaikgikifcaaDoor.crcp Go.Proofs.YtfinaikgikifcaaDoor.crcw Go.Proofs.YtfinaikgikifcaaDoor.samew Go.Proofs.YtfinaikgikifcaaDoor.framep Go.Proofs.YtfinaikgikifcaaDoor.framew Go.Proofs.YtfinaikgikifcaaDoor.frameit Go.Proofs.YtfinaikgikifcaaDoor.framem Go.Proofs.YtfinaikgikifcaaDoor.framel Go.Proofs.YtfinaikgikifcaaDoor.framea Go.Proofs.YtfinaikgikifcaaDoor.framer Go.Proofs.YtfinaikgikifcaaDoor.framen Go.Proofs.YtfinaikgikifcaaDoor.framek Go.Proofs.YtfinaikgikifcaaDoor.diskp Go.Proofs.YtfinaikgikifcaaDoor.diskr Go.Proofs.YtfinaikgikifcaaDoor.diskw Go.Proofs.YtfinaikgikifcaaDoor.vaultp Go.Proofs.YtfinaikgikifcaaDoor.vaultw Go.Proofs.YtfinaikgikifcaaDoor.vaultl Go.Proofs.YtfinaikgikifcaaDoor.vaulta Go.Proofs.YtfinaikgikifcaaDoor.vaulto Go.Proofs.YtfinaikgikifcaaDoor.vaultk Go.Proofs.YtfinaikgikifcaaDoor.vops Go.Proofs.YtfinaikgikifcaaDoor.vaulth Go.Proofs.YtfinaikgikifcaaDoor.vaultr

/-- what the law may hold: new memory beside the disk and the vault -/
def Pv (w : World) (p : Nat) (cs : Nat → Sl) (q : Nat) (j : Nat) : Prop := w.heap.size ≤ j ∧ ¬ Ft p cs j ∧ j ≠ q
/-- between the rounds -/
def Gl (w W : World) (p k : Nat) (A4 : Option Addr) (n4 c4 : Nat) (A5 : Option Addr) (n5 c5 : Nat) (q : Nat) (gen : Int) : Prop :=
  ∃ (cs : Nat → Sl) (d : D) (f : Nat) (snap : List Int) (recs : List (List Int)) (cells : List Value), DAt W w.heap.size p cs d ∧ Neat d f gen snap recs ∧ Ok d (1048600 + k * 1048584) (4 + k * 4) ∧ VB W q p f gen (recs.length : Nat) 0 ∧ (w.heap.size ≤ q ∧ ¬ Ft p cs q) ∧
    SnapT (Pv w p cs q) W A4 n4 c4 snap ∧ RecT (Pv w p cs q) W w.heap.size A5 n5 c5 cells recs ∧ (recs.length ≤ k ∧ gen ≤ k + 1) ∧ Below w.heap.size w W
section
variable {w W W1 : World} {p k : Nat} {A4 : Option Addr} {n4 c4 : Nat} {A5 : Option Addr} {n5 c5 q : Nat} {gen : Int}
theorem Gl.bel (h : Gl w W p k A4 n4 c4 A5 n5 c5 q gen) : Below w.heap.size w W := by obtain ⟨_, _, _, _, _, _, _, _, _, _, _, _, _, _, h⟩ := h; exact h
theorem Gl.below (h : Gl w W p k A4 n4 c4 A5 n5 c5 q gen) (hb : Below W.heap.size W W1) : Gl w W1 p k A4 n4 c4 A5 n5 c5 q gen := by
  obtain ⟨cs, d, f, snap, recs, cells, h1, h2, h3, h4, h5, h6, h7, h8, h9⟩ := h
  exact ⟨cs, d, f, snap, recs, cells, h1.below hb, h2, h3, h4.below hb, h5, h6.below hb, h7.below hb, h8, h9.trans (hb.mono h9.size)⟩
theorem Gl.next (h : Gl w W p k A4 n4 c4 A5 n5 c5 q gen) : Gl w W p (k + 1) A4 n4 c4 A5 n5 c5 q gen := by
  obtain ⟨cs, d, f, snap, recs, cells, h1, h2, h3, h4, h5, h6, h7, h8, h9⟩ := h
  exact ⟨cs, d, f, snap, recs, cells, h1, h2, h3.more (by omega) (by omega), h4, h5, h6, h7, ⟨by omega, by omega⟩, h9⟩
end
theorem pv_step {w W W1 : World} {base p q : Nat} {cs cs1 : Nat → Sl} (h : VStep W base p cs q W1 cs1) : ∀ j, j < W.heap.size → Pv w p cs q j → Pv w p cs1 q j := fun j hj hp => ⟨hp.1, fun hf => by
  rcases h.foot j hf with h1 | h1
  · exact hp.2.1 h1
  · omega, hp.2.2⟩
set_option maxHeartbeats 2000000 in
set_option maxRecDepth 100000 in
theorem goesLaw (A : Option Addr) (n c : Nat) (os : List O) (w : World) (hr : RdO w A n os) (hc : n ≤ c) (ht : Table w) :
    Calls Tryd.prog 5 #[.slice A n c] w fun e w' => e = .returned (.bool true) ∧ Below w.heap.size w w' := by
  have HR := Lib.hid hr
  have HT := Lib.hid ht
  have HL := Lib.hid hr.len
  have HHV := Lib.hid (fun W (hb : Below w.heap.size w W) => heavy_any none 0 0 none 0 0 A n c os W (by omega) (by omega) (hr.below hb))
  have hmax := hr.max
  clear hr ht
  have kc := fun (w : World) (C : Array Value) (n c : Nat) => Lib.run_convert_bytes_const (P := Tryd.prog) w 22 5 C n c Tryd.underlying22 Tryd.underlying5
  go_enter Tryd.func5, Tryd.ntmps5
  go_wp2_with fail
  refine (wakes_any _ HT.out).mono ?_
  rintro e w1 ⟨rfl, hb⟩
  have B1 := Lib.hid hb
  have HH := Lib.hid (HHV.out w1 hb)
  clear hb HHV
  by_cases hbig : 2097152 < 0 + 0 + sumB os ∨ 1024 < n
  · rw [decide_eq_true hbig] at HH
    clear hbig
    go_wp2_with fail
    refine HH.out.mono ?_
    rintro e w2 ⟨rfl, hb2⟩
    have B2 := Lib.hid (B1.out.trans (hb2.mono B1.out.size))
    clear hb2
    go_wp2
    go_ret
    exact ⟨rfl, B2.out⟩
  rw [decide_eq_false hbig] at HH
  clear hbig
  go_wp2_with fail
  refine HH.out.mono ?_
  rintro e w2 ⟨rfl, hb2⟩
  have B2 := Lib.hid (B1.out.trans (hb2.mono B1.out.size))
  have hs2 := B2.out.size
  clear hb2
  by_cases hlong : 200 < n
  · go_wp2
    go_ret
    exact ⟨rfl, B2.out⟩
  go_wp2_with fail
  refine (new_any w2).mono ?_
  rintro e w3 ⟨p, cs, rfl, h3, hb3⟩
  have H3 := Lib.hid (h3.less hs2)
  have B3 := Lib.hid (B2.out.trans (hb3.mono hs2))
  have hs3 := B3.out.size
  clear h3 hb3
  go_wp2_with fail
  have L5 : Hid (By [102, 105, 114, 115, 116]) := Lib.hid (By_of _ (by decide))
  have BB := below_alloc (Below.refl w3.heap.size w3) (.cells (nums .u8 [102, 105, 114, 115, 116]).toArray 5 (5, 6))
  have HD4 := Lib.hid (H3.out.below BB)
  have HB4 := Lib.hid (B3.out.trans (BB.mono hs3))
  have HL4 := Lib.hid (litB w3 (5, 6) [102, 105, 114, 115, 116] (Nat.le_of_ble_eq_true rfl) L5.out)
  have HNF : Hid (¬ Ft p cs w3.heap.size) := Lib.hid fun h => absurd (H3.out.ft h).2 (Nat.lt_irrefl _)
  have hz4 : (w3.alloc (.cells (nums .u8 [102, 105, 114, 115, 116]).toArray 5 (5, 6))).heap.size = w3.heap.size + 1 := by simp
  have HSN : Hid (SnapT (Pv w p cs (w3.heap.size + 1)) (w3.alloc (.cells (nums .u8 [102, 105, 114, 115, 116]).toArray 5 (5, 6))) (some ⟨w3.heap.size, 0, none⟩) 5 5 [102, 105, 114, 115, 116]) := Lib.hid (SnapT.lit w3 (5, 6) [102, 105, 114, 115, 116] (Nat.le_of_ble_eq_true rfl) L5.out ⟨hs3, HNF.out, by omega⟩)
  obtain ⟨d5, hc5, hn5, hk5, ho5, HO⟩ := open_fresh (s' := [102, 105, 114, 115, 116]) HD4.out (some ⟨w3.heap.size, 0, none⟩) 5 5 (fun w' cs' st => (HSN.out.blocks (fun g cur fr h1 h2 => st.keep.2 g h2.2.1 (Array.getElem?_eq_some_iff.1 h1).1)).rd) (by decide) (HT.out.below HB4.out)
  have HO5 := Lib.hid HO
  have HC5 := Lib.hid hc5
  have HK5 := Lib.hid (hc5.ok (N := 4) hn5 hk5)
  clear HO ho5 hc5 hn5 hk5 BB
  refine HO5.out.mono ?_
  rintro e w5 ⟨q, A5, n5, c5, D5, m5, e5, cells5, cs5, rfl, h5, s5, hv5, ⟨hq5, hnq5⟩, hg5⟩
  have B5 := Lib.hid (HB4.out.trans s5.bel)
  have HG0 : Hid (Gl w w5 p 0 (some ⟨w3.heap.size, 0, none⟩) 5 5 none 0 0 q 1) := Lib.hid (by
    refine ⟨cs5, d5, 0, [102, 105, 114, 115, 116], [], [], h5, HC5.out, HK5.out.more (by rw [fencs_size]; simp) (by omega), hv5, ⟨by omega, hnq5⟩, ?_, RecT.nil _ _ _, ⟨by simp, by omega⟩, B5.out⟩
    have hsn := HSN.out.blocks (W1 := w5) (fun g cur fr h1 h2 => s5.keep.2 g h2.2.1 (Array.getElem?_eq_some_iff.1 h1).1)
    refine ⟨hsn.rd, fun hn => ?_⟩
    obtain ⟨g, cur, fr, e1, e2, e3⟩ := hsn.lies hn
    obtain ⟨g', cur', fr', e1', e2', e3'⟩ := HSN.out.lies hn
    rw [e1] at e1'
    injection e1' with e1'
    injection e1' with e1'
    subst e1'
    have hlt := (Array.getElem?_eq_some_iff.1 e2').1
    exact ⟨g, cur, fr, e1, e2, e3.1, fun hf => by
      rcases s5.foot g hf with h1 | h1
      · exact e3.2.1 h1
      · omega, by omega⟩)
  clear h5 s5 hv5 hnq5 hg5 hq5 hz4 HSN HL4 HD4 HO5
  go_wp2
  go_loopw [4, 5, 6, 7, 39] (fun s4 s5 s6 s7 i wr => ∃ (k : Nat) (A4 : Option Addr) (n4 c4 : Nat) (A5 : Option Addr) (n5 c5 : Nat) (q : Nat) (gen : Int), k ≤ n ∧ i = .int .i64 k ∧ s4 = .slice A4 n4 c4 ∧ s5 = .slice A5 n5 c5 ∧ s6 = .int .i64 gen ∧ s7 = .pointer (some ⟨q, 0, none⟩) ∧ Aside0 (Gl w wr p k A4 n4 c4 A5 n5 c5 q gen)) (fun _ _ _ _ i _ => n - (intOf i).toNat)
  case atStart => exact ⟨0, _, _, _, _, _, _, _, _, by omega, rfl, rfl, rfl, rfl, rfl, ⟨HG0.out⟩⟩
  case round =>
    obtain ⟨k, A4, n4, c4, A5, n5, c5, q4, gen, hk, rfl, rfl, rfl, rfl, rfl, HG⟩ := hrel
    have BW := Lib.hid HG.out.bel
    have hsw := BW.out.size
    by_cases hlt : k < n
    · have HO' := Lib.hid (HR.out.below BW.out)
      obtain ⟨b, off, rfl, hat⟩ := HO'.out.at_ (by omega)
      obtain ⟨e0, e1, e2, e3⟩ := hat k hlt
      have hmem := getD_memO os k (by rw [HL.out]; exact hlt)
      have HI := Lib.hid (HR.out.ok _ hmem)
      have HRD := Lib.hid (HR.out.rd _ hmem)
      have hl := HRD.out.len
      clear hat hmem
      generalize os.getD k nilO = o at *
      obtain ⟨kd, on, ok, oA, om, oc, ys⟩ := o
      dsimp only at *
      have hoc := HI.out.c
      have HB2 := below_alloc (Below.refl wr.heap.size wr) (.cells #[.int .i64 kd, .int .i64 on, .int .i64 ok, .slice oA om oc] 41)
      have c3 : (wr.alloc (.cells #[.int .i64 kd, .int .i64 on, .int .i64 ok, .slice oA om oc] 41)).cell? ⟨wr.heap.size, 3, none⟩ = some (.slice oA om oc) := by simp
      have c0 : (wr.alloc (.cells #[.int .i64 kd, .int .i64 on, .int .i64 ok, .slice oA om oc] 41)).cell? ⟨wr.heap.size, 0, none⟩ = some (.int .i64 kd) := by simp
      have HGA := Lib.hid (HG.out.below HB2)
      have hbx : wr.heap.size < (wr.alloc (.cells #[.int .i64 kd, .int .i64 on, .int .i64 ok, .slice oA om oc] 41)).heap.size := by simp
      clear HB2
      by_cases hlong : 65536 < om
      · go_wp2
        go_roundw
        case rel => exact ⟨k + 1, _, _, _, _, _, _, _, _, by omega, by go_num, rfl, rfl, rfl, rfl, ⟨HGA.out.next⟩⟩
        case measure => simp [intOf]; omega
      go_upto_region 15 with fail
      clear e0 e1 e2 e3
      obtain ⟨cs6, d6, f6, snap, recs, cells, h6, hN6, hok6, hv6, ⟨hq6, hnq6⟩, hsn6, hrc6, ⟨hrl, hgl⟩, _⟩ := HG.out
      have hql := hv6.lt
      have HFB : Hid (∀ i, wr.heap.size ≤ i → ¬ Ft p cs6 i) := Lib.hid fun i hi h => by have := (h6.ft h).2; omega
      have hbb := below_alloc (Below.refl wr.heap.size wr) (.cells #[.int .i64 kd, .int .i64 on, .int .i64 ok, .slice oA om oc] 41)
      have BWb := Lib.hid (BW.out.trans (hbb.mono hsw))
      have H7 := Lib.hid (h6.below hbb)
      have HV7 := Lib.hid (hv6.below hbb)
      have HSN7 := Lib.hid (hsn6.below hbb)
      have HRC7 := Lib.hid (hrc6.below hbb)
      have HN6 := Lib.hid hN6
      have HOK6 := Lib.hid hok6
      have HNQ6 := Lib.hid hnq6
      have HT7 := Lib.hid (HT.out.below BWb.out)
      have HRD7 := Lib.hid (HRD.out.below BWb.out)
      have hg1 := hN6.hg
      have hf2 := hN6.hf
      clear h6 hN6 hok6 hv6 hnq6 hsn6 hrc6 hbb HG HGA
      generalize wr.alloc (.cells #[.int .i64 kd, .int .i64 on, .int .i64 ok, .slice oA om oc] 41) = w7 at *
      have HR5 := Lib.hid HRC7.out.len
      have hn5k : n5 ≤ k := by have := HR5.out; omega
      by_cases hk0 : kd = 0
      · subst hk0
        obtain ⟨d8, ha8, hN8, _⟩ := HN6.out.app (ys := ys) (by omega) (recs.length : Nat)
        have HAP := Lib.hid (vaulta.append_any (v := ⟨f6, gen, (recs.length : Nat), 0⟩) H7.out HOK6.out HV7.out hq6 HNQ6.out (by show 0 ≤ ((recs.length : Nat) : Int) ∧ ((recs.length : Nat) : Int) ≤ 4611686018427387904; omega) oA om oc ys HRD7.out hoc (by omega) (by omega) HT7.out)
        have hok8 := Ok.vapp HOK6.out ⟨f6, gen, (recs.length : Nat), 0⟩ ys
        rw [show vappR d6 ⟨f6, gen, (recs.length : Nat), 0⟩ ys = (d8, ⟨f6, gen, (recs.length : Nat) + 1, 0⟩, 0) from ha8] at HAP hok8
        have HN8 := Lib.hid hN8
        have HOK8 := Lib.hid hok8
        clear ha8 hN8 hok8
        go_wp2_with fail
        refine HAP.out.mono ?_
        rintro e w8 ⟨rfl, cs8, h8, s8, hv8, hnq8⟩
        have hs8 := s8.keep.1
        have c38 := (World.cell?_of_block (a := ⟨wr.heap.size, 3, none⟩) (s8.keep.2 wr.heap.size ⟨HFB.out _ (Nat.le_refl _), by omega⟩ hbx)).trans c3
        have B8 := Lib.hid (BWb.out.trans s8.bel)
        have HSN8 := Lib.hid (HSN7.out.step (s8.keep.mono fun i _ h => h.2) (pv_step s8))
        have HRC8 := Lib.hid (HRC7.out.step (s8.keep.mono fun i _ h => h.2) (pv_step s8))
        have H8 := Lib.hid h8
        have HV8 := Lib.hid hv8
        have HNQ8 := Lib.hid hnq8
        have hql8 := hv8.lt
        have HFB8 : Hid (∀ i, w8.heap.size ≤ i → ¬ Ft p cs8 i) := Lib.hid fun i hi h => by have := (h8.ft h).2; omega
        have HRD8 := Lib.hid (HRD.out.below B8.out)
        have hs08 := B8.out.size
        have c39 := pw_cell_below (below_alloc (Below.refl w8.heap.size w8) (.cells #[] 5)) c38
        clear h8 s8 hv8 hnq8 HAP HN6 HOK6 HV7 H7 HNQ6 HSN7 HRC7 HRD7 HT7 c0 c3
        go_wp2_with (first | (at_builtin; refine app (w0 := w8) (base := w8.heap.size) rfl (.tmp 57) (.tmp 59) rfl rfl rfl (OwB.lit0 w8 _ (Nat.le_refl _)) (HRD8.out.below (below_alloc (Below.refl _ _) _)) ((Below.refl w8.heap.size w8).alloc (Nat.le_refl _) _) ?s9 ?l9 ?_; (case s9 => simp); (case l9 => omega); intro A9 n9 c9 w9 ho hb; rw [List.nil_append] at ho; have HO9 := Lib.hid ho; have HB9 := Lib.hid hb; have hs9 := hb.size; have HRC9 := Lib.hid (HRC8.out.below hb); clear ho hb) | (at_builtin; go_must (refine appVH (w0 := w8) (base := w.heap.size) rfl (.tmp 56) (.tmp 61) rfl rfl rfl HRC9.out.rows (HB9.out.mono hs08) ?sa ?sb ?_; (case sa => omega); (case sb => omega); intro A10 n10 c10 w10 ho hb hg hob; have HO10 := Lib.hid ho; have HB10 := Lib.hid hb; have HG10 := Lib.hid hg; have HOB10 := Lib.hid hob; clear ho hb hg hob)) | fail)
        have hkd : ∀ g, Ft p cs8 g → w10.heap[g]? = w9.heap[g]? := fun g hg' => HG10.out.block g (by have := (H8.out.ft hg').2; omega) (fun e => (HRC8.out.head g e.symm).2.1 hg')
        have H10 := Lib.hid ((H8.out.below HB9.out).blocks hkd)
        have HV10 := Lib.hid ((HV8.out.below HB9.out).block (HG10.out.block q4 (by omega) (fun e => (HRC8.out.head q4 e.symm).2.2 rfl)))
        have HRC10 := Lib.hid (RecT.snoc HRC8.out HRC9.out HO9.out hs08 (Nat.le_refl _) HO10.out HG10.out HOB10.out (fun j hj => ⟨by omega, HFB8.out j hj, by omega⟩) hs9)
        have HL10 := Lib.hid HRC10.out.len
        have HGL : Hid (Gl w w10 p (k + 1) A4 n4 c4 A10 n10 c10 q4 gen) := Lib.hid ⟨cs8, d8, f6, snap, recs ++ [ys], _, H10.out, HN8.out, HOK8.out.more (by omega) (by omega), by
          have := HV10.out
          rw [List.length_append]
          exact this, ⟨hq6, HNQ8.out⟩, (HSN8.out.below HB9.out).other HRC9.out.rows HG10.out, HRC10.out, ⟨by rw [List.length_append]; simp; omega, by omega⟩, B8.out.trans HB10.out⟩
        have HCN := Lib.hid (count_any HV10.out)
        have HGN := Lib.hid (generation_any HV10.out)
        rw [show ((recs.length : Nat) : Int) + 1 = ((n10 : Nat) : Int) from by rw [HL10.out, List.length_append]; simp] at HCN
        clear hkd
        go_wp2_with fail
        refine HCN.out.mono ?_
        rintro e w11 ⟨rfl, rfl⟩
        go_wp2_with fail
        refine HGN.out.mono ?_
        rintro e w11 ⟨rfl, rfl⟩
        go_wp2
        go_roundw
        case rel => exact ⟨k + 1, _, _, _, _, _, _, _, _, by omega, by go_num, rfl, rfl, rfl, rfl, ⟨HGL.out⟩⟩
        case measure => simp [intOf]; omega
      by_cases hk1 : kd = 1
      · subst hk1
        clear hk0
        obtain ⟨d8, ha8, hN8⟩ := HN6.out.ck (by omega) (s' := ys) (by omega) HRD7.out.2 (recs.length : Nat)
        have HCK := Lib.hid (checkpoint_any (v := ⟨f6, gen, (recs.length : Nat), 0⟩) H7.out HOK6.out HV7.out hq6 HNQ6.out (by show ((f6 : Nat) : Int) = 0 ∨ ((f6 : Nat) : Int) = 1; omega) (by show 0 ≤ gen ∧ gen ≤ 4611686018427387904; omega) oA om oc ys HRD7.out (by omega) (by omega) (by omega) HT7.out)
        have hok8 := Ok.vck HOK6.out ⟨f6, gen, (recs.length : Nat), 0⟩ ys
        rw [show vckR d6 ⟨f6, gen, (recs.length : Nat), 0⟩ ys = (d8, ⟨((1 - f6 : Nat) : Int), gen + 1, 0, 0⟩, 0) from ha8] at HCK hok8
        have HN8 := Lib.hid hN8
        have HOK8 := Lib.hid hok8
        clear ha8 hN8 hok8
        go_wp2_with fail
        refine HCK.out.mono ?_
        rintro e w8 ⟨rfl, cs8, h8, s8, hv8, hnq8⟩
        have hs8 := s8.keep.1
        have c38 := (World.cell?_of_block (a := ⟨wr.heap.size, 3, none⟩) (s8.keep.2 wr.heap.size ⟨HFB.out _ (Nat.le_refl _), by omega⟩ hbx)).trans c3
        have B8 := Lib.hid (BWb.out.trans s8.bel)
        have H8 := Lib.hid h8
        have HV8 := Lib.hid hv8
        have HNQ8 := Lib.hid hnq8
        have hql8 := hv8.lt
        have HFB8 : Hid (∀ i, w8.heap.size ≤ i → ¬ Ft p cs8 i) := Lib.hid fun i hi h => by have := (h8.ft h).2; omega
        have HRD8 := Lib.hid (HRD.out.below B8.out)
        have hs08 := B8.out.size
        have c39 := pw_cell_below (below_alloc (Below.refl w8.heap.size w8) (.cells #[] 5)) c38
        clear h8 s8 hv8 hnq8 HCK HN6 HOK6 HV7 H7 HNQ6 HSN7 HRC7 HRD7 HT7 c0 c3
        go_wp2_with (first | (at_builtin; refine app (w0 := w8) (base := w8.heap.size) rfl (.tmp 70) (.tmp 72) rfl rfl rfl (OwB.lit0 w8 _ (Nat.le_refl _)) (HRD8.out.below (below_alloc (Below.refl _ _) _)) ((Below.refl w8.heap.size w8).alloc (Nat.le_refl _) _) ?s9 ?l9 ?_; (case s9 => simp); (case l9 => omega); intro A9 n9 c9 w9 ho hb; rw [List.nil_append] at ho; have HO9 := Lib.hid ho; have HB9 := Lib.hid hb; have hs9 := hb.size; clear ho hb) | fail)
        have HV9 := Lib.hid (HV8.out.below HB9.out)
        have HGL : Hid (Gl w w9 p (k + 1) A9 n9 c9 none 0 0 q4 (gen + 1)) := Lib.hid ⟨cs8, d8, 1 - f6, ys, [], [], H8.out.below HB9.out, HN8.out, HOK8.out.more (by omega) (by omega), HV9.out, ⟨hq6, HNQ8.out⟩, SnapT.own HO9.out (fun j h1 h2 => ⟨by omega, HFB8.out j h1, by omega⟩), RecT.nil _ _ _, ⟨by simp, by omega⟩, B8.out.trans (HB9.out.mono hs08)⟩
        have HCN := Lib.hid (count_any HV9.out)
        have HGN := Lib.hid (generation_any HV9.out)
        go_wp2_with fail
        refine HCN.out.mono ?_
        rintro e w11 ⟨rfl, rfl⟩
        go_wp2_with fail
        refine HGN.out.mono ?_
        rintro e w11 ⟨rfl, rfl⟩
        go_wp2
        go_roundw
        case rel => exact ⟨k + 1, _, _, _, _, _, _, _, _, by omega, by go_num, rfl, rfl, rfl, rfl, ⟨HGL.out⟩⟩
        case measure => simp [intOf]; omega
      by_cases hk45 : kd = 4 ∨ kd = 5
      · rcases hk45 with rfl | rfl
        · obtain ⟨d8, hN8, _, _, ho8, HO⟩ := open_clean (s' := ys) H7.out HN6.out HOK6.out.n HOK6.out.k (by omega) (by omega) (by have := HN6.out.small HOK6.out; omega) oA om oc (fun w' cs' st => HRD.out.below (BWb.out.trans st.bel)) (by omega) HT7.out
          have hok8 := Ok.openR HOK6.out ys
          rw [ho8] at hok8
          have HO8 := Lib.hid HO
          have HN8 := Lib.hid hN8
          have HOK8 := Lib.hid hok8
          clear HO hN8 hok8 ho8 hk0 hk1
          go_wp2_with fail
          refine HO8.out.mono ?_
          rintro e w8 ⟨q8, A8, n8, c8, D8, m8, e8, cells8, cs8, rfl, h8, s8, hv8, ⟨hq8, hnq8⟩, hg8⟩
          have hs8 := s8.keep.1
          have B8 := Lib.hid (BWb.out.trans s8.bel)
          have hpv : ∀ j, j < w7.heap.size → Pv w p cs6 q4 j → Pv w p cs8 q8 j := fun j hj hp => ⟨hp.1, fun hf => by
            rcases s8.foot j hf with h1 | h1
            · exact hp.2.1 h1
            · omega, by omega⟩
          have HSN8 := Lib.hid (HSN7.out.step (s8.keep.mono fun i _ h => h.2.1) hpv)
          have HRC8 := Lib.hid (HRC7.out.step (s8.keep.mono fun i _ h => h.2.1) hpv)
          have HSM := Lib.hid (same_any A8 n8 c8 snap A4 n4 c4 snap w8 hg8.rd HSN8.out.rd)
          rw [eqL_self] at HSM
          have hm8 : m8 ≤ k := by
            have h1 := OwV.len hg8.rows
            have h2 : cells8.length = recs.length := hg8.each.len
            omega
          have HAL := Lib.hid (fun W (hb : Below w8.heap.size w8 W) => alike_any D8 m8 e8 recs A5 n5 c5 recs W ((hg8.rds (by omega)).below hb) ((HRC8.out.rd (by omega)).below hb))
          rw [eqLL_self] at HAL
          have HCN := Lib.hid (fun W (hb : Below w8.heap.size w8 W) => count_any (hv8.below hb))
          have HGN := Lib.hid (fun W (hb : Below w8.heap.size w8 W) => generation_any (hv8.below hb))
          rw [show ((Vt.r ⟨f6, gen, snap, recs⟩).length : Int) = ((n5 : Nat) : Int) from by rw [HR5.out]] at HCN
          have HGL : Hid (Gl w w8 p (k + 1) A4 n4 c4 A5 n5 c5 q8 gen) := Lib.hid ⟨cs8, d8, f6, snap, recs, cells, h8, HN8.out, HOK8.out.more (by omega) (by omega), hv8, ⟨by omega, hnq8⟩, HSN8.out, HRC8.out, ⟨by omega, by omega⟩, B8.out⟩
          clear h8 s8 hv8 hnq8 hg8 hpv hm8 HO8
          go_wp2_with (first | (go_at_call 13; refine HSM.out.mono ?_; rintro e w' ⟨rfl, ⟨q6, rfl⟩⟩; have B6 := Lib.hid (pw_below_drewN (Below.refl w8.heap.size w8) q6)) | (go_at_call 14; refine (HAL.out _ B6.out).mono ?_; rintro e w' ⟨rfl, ⟨q7, rfl⟩⟩; have B7 := Lib.hid (pw_below_drewN (Below.refl w8.heap.size w8) (q6 + q7))) | (go_at_call 16; refine (HCN.out _ B7.out).mono ?_; rintro e w' ⟨rfl, rfl⟩) | (go_at_call 15; refine (HGN.out _ B7.out).mono ?_; rintro e w' ⟨rfl, rfl⟩))
          go_roundw
          case rel => exact ⟨k + 1, _, _, _, _, _, _, _, _, by omega, by go_num, rfl, rfl, rfl, rfl, ⟨HGL.out.below B7.out⟩⟩
          case measure => simp [intOf]; omega
        · obtain ⟨d8, hN8, _, _, ho8, HO⟩ := open_clean (s' := ys) H7.out HN6.out HOK6.out.n HOK6.out.k (by omega) (by omega) (by have := HN6.out.small HOK6.out; omega) oA om oc (fun w' cs' st => HRD.out.below (BWb.out.trans st.bel)) (by omega) HT7.out
          have hok8 := Ok.openR HOK6.out ys
          rw [ho8] at hok8
          have HO8 := Lib.hid HO
          have HN8 := Lib.hid hN8
          have HOK8 := Lib.hid hok8
          clear HO hN8 hok8 ho8 hk0 hk1
          go_wp2_with fail
          refine HO8.out.mono ?_
          rintro e w8 ⟨q8, A8, n8, c8, D8, m8, e8, cells8, cs8, rfl, h8, s8, hv8, ⟨hq8, hnq8⟩, hg8⟩
          have hs8 := s8.keep.1
          have B8 := Lib.hid (BWb.out.trans s8.bel)
          have hpv : ∀ j, j < w7.heap.size → Pv w p cs6 q4 j → Pv w p cs8 q8 j := fun j hj hp => ⟨hp.1, fun hf => by
            rcases s8.foot j hf with h1 | h1
            · exact hp.2.1 h1
            · omega, by omega⟩
          have HSN8 := Lib.hid (HSN7.out.step (s8.keep.mono fun i _ h => h.2.1) hpv)
          have HRC8 := Lib.hid (HRC7.out.step (s8.keep.mono fun i _ h => h.2.1) hpv)
          have HSM := Lib.hid (same_any A8 n8 c8 snap A4 n4 c4 snap w8 hg8.rd HSN8.out.rd)
          rw [eqL_self] at HSM
          have hm8 : m8 ≤ k := by
            have h1 := OwV.len hg8.rows
            have h2 : cells8.length = recs.length := hg8.each.len
            omega
          have HAL := Lib.hid (fun W (hb : Below w8.heap.size w8 W) => alike_any D8 m8 e8 recs A5 n5 c5 recs W ((hg8.rds (by omega)).below hb) ((HRC8.out.rd (by omega)).below hb))
          rw [eqLL_self] at HAL
          have HCN := Lib.hid (fun W (hb : Below w8.heap.size w8 W) => count_any (hv8.below hb))
          have HGN := Lib.hid (fun W (hb : Below w8.heap.size w8 W) => generation_any (hv8.below hb))
          rw [show ((Vt.r ⟨f6, gen, snap, recs⟩).length : Int) = ((n5 : Nat) : Int) from by rw [HR5.out]] at HCN
          have HGL : Hid (Gl w w8 p (k + 1) A4 n4 c4 A5 n5 c5 q8 gen) := Lib.hid ⟨cs8, d8, f6, snap, recs, cells, h8, HN8.out, HOK8.out.more (by omega) (by omega), hv8, ⟨by omega, hnq8⟩, HSN8.out, HRC8.out, ⟨by omega, by omega⟩, B8.out⟩
          clear h8 s8 hv8 hnq8 hg8 hpv hm8 HO8
          go_wp2_with (first | (go_at_call 13; refine HSM.out.mono ?_; rintro e w' ⟨rfl, ⟨q6, rfl⟩⟩; have B6 := Lib.hid (pw_below_drewN (Below.refl w8.heap.size w8) q6)) | (go_at_call 14; refine (HAL.out _ B6.out).mono ?_; rintro e w' ⟨rfl, ⟨q7, rfl⟩⟩; have B7 := Lib.hid (pw_below_drewN (Below.refl w8.heap.size w8) (q6 + q7))) | (go_at_call 16; refine (HCN.out _ B7.out).mono ?_; rintro e w' ⟨rfl, rfl⟩) | (go_at_call 15; refine (HGN.out _ B7.out).mono ?_; rintro e w' ⟨rfl, rfl⟩))
          go_roundw
          case rel => exact ⟨k + 1, _, _, _, _, _, _, _, _, by omega, by go_num, rfl, rfl, rfl, rfl, ⟨HGL.out.below B7.out⟩⟩
          case measure => simp [intOf]; omega
      · have hb0 : (kd == 0) = false := beq_eq_false_iff_ne.2 hk0
        have hb1 : (kd == 1) = false := beq_eq_false_iff_ne.2 hk1
        have hb4 : (kd == 4) = false := beq_eq_false_iff_ne.2 (fun h => hk45 (.inl h))
        have hb5 : (kd == 5) = false := beq_eq_false_iff_ne.2 (fun h => hk45 (.inr h))
        have HGL : Hid (Gl w w7 p (k + 1) A4 n4 c4 A5 n5 c5 q4 gen) := Lib.hid ⟨cs6, d6, f6, snap, recs, cells, H7.out, HN6.out, HOK6.out.more (by omega) (by omega), HV7.out, ⟨hq6, HNQ6.out⟩, HSN7.out, HRC7.out, ⟨by omega, by omega⟩, BWb.out⟩
        have HCN := Lib.hid (count_any HV7.out)
        have HGN := Lib.hid (generation_any HV7.out)
        rw [show ((recs.length : Nat) : Int) = ((n5 : Nat) : Int) from by rw [HR5.out]] at HCN
        clear hk0 hk1 hk45
        go_wp2_with fail
        refine HCN.out.mono ?_
        rintro e w11 ⟨rfl, rfl⟩
        go_wp2_with fail
        refine HGN.out.mono ?_
        rintro e w11 ⟨rfl, rfl⟩
        go_wp2
        go_roundw
        case rel => exact ⟨k + 1, _, _, _, _, _, _, _, _, by omega, by go_num, rfl, rfl, rfl, rfl, ⟨HGL.out⟩⟩
        case measure => simp [intOf]; omega
    · go_wp2
      go_ret
      exact ⟨rfl, BW.out⟩
end Go.Proofs.YtfinaikgikifcaaDoor.vaultk3
