/- What the vault's Checkpoint computes; and what is proved besides: see the words ahead of each part. -/
import Derived.BigRegion
import Derived.Lib.SlBytesConst
import Derived.Test.YtfinaikgikifcaaDoorWSized
import Derived.ProofKit
import Derived.OpenShut
import Derived.Carry
import Derived.Deep.Matrix
import Derived.Lib.SmallJoins
import Derived.Deep.Slices
import Derived.SizedLaws
import Derived.Test.YtfinaikgikifcaaDoorVaultKeepsMg6
set_option linter.unusedVariables false
set_option linter.unusedSimpArgs false
/- What the vault's Checkpoint computes. -/
namespace Go.Proofs.YtfinaikgikifcaaDoor.vaulta
open Go.RowKit Go.Shelf Go.Proofs.YtfinaikgikifcaaDoorW.PrintWords Go.Proofs.YtfinaikgikifcaaDoor.base Go.Proofs.YtfinaikgikifcaaDoor.mem Go.Proofs.YtfinaikgikifcaaDoor.keep Go.Proofs.YtfinaikgikifcaaDoor.crcp Go.Proofs.YtfinaikgikifcaaDoor.crcw Go.Proofs.YtfinaikgikifcaaDoor.samew Go.Proofs.YtfinaikgikifcaaDoor.framep Go.Proofs.YtfinaikgikifcaaDoor.framew Go.Proofs.YtfinaikgikifcaaDoor.frameit Go.Proofs.YtfinaikgikifcaaDoor.framem Go.Proofs.YtfinaikgikifcaaDoor.framel Go.Proofs.YtfinaikgikifcaaDoor.diskp Go.Proofs.YtfinaikgikifcaaDoor.diskr Go.Proofs.YtfinaikgikifcaaDoor.diskw Go.Proofs.YtfinaikgikifcaaDoor.vaultp Go.Proofs.YtfinaikgikifcaaDoor.vaultw

def vckR (d : D) (v : Vn) (s : List Int) : D × Vn × Int :=
  if 1048576 < 8 + s.length then (d, v, 3)
  else if 4611686018427387904 ≤ v.g then (d, v, 23)
  else if v.s ≠ 0 then (d, v, v.s)
  else if (beginR d (1 - v.f) (firstB (v.g + 1) s)).2 ≠ 0 then ((beginR d (1 - v.f) (firstB (v.g + 1) s)).1, ⟨v.f, v.g, v.n, (beginR d (1 - v.f) (firstB (v.g + 1) s)).2⟩, (beginR d (1 - v.f) (firstB (v.g + 1) s)).2)
  else if (cutR (beginR d (1 - v.f) (firstB (v.g + 1) s)).1 (1 - (1 - v.f)) 0).2 ≠ 0 then ((cutR (beginR d (1 - v.f) (firstB (v.g + 1) s)).1 (1 - (1 - v.f)) 0).1, ⟨1 - v.f, v.g + 1, 0, (cutR (beginR d (1 - v.f) (firstB (v.g + 1) s)).1 (1 - (1 - v.f)) 0).2⟩, (cutR (beginR d (1 - v.f) (firstB (v.g + 1) s)).1 (1 - (1 - v.f)) 0).2)
  else ((cutR (beginR d (1 - v.f) (firstB (v.g + 1) s)).1 (1 - (1 - v.f)) 0).1, ⟨1 - v.f, v.g + 1, 0, v.s⟩, 0)
theorem firstR_ok {g : Int} {s : List Int} (h : ¬ 1048576 < 8 + s.length) : firstR g s = (firstB g s, 0) := if_pos (by omega)
theorem firstR_long {g : Int} {s : List Int} (h : 1048576 < 8 + s.length) : firstR g s = ([], 3) := if_neg (by omega)
set_option maxHeartbeats 2000000 in
set_option maxRecDepth 100000 in
theorem checkpoint_any {w : World} {base p q : Nat} {cs : Nat → Sl} {d : D} {v : Vn} {S N : Nat} (h : DAt w base p cs d) (hk : Ok d S N) (hv : VB w q p v.f v.g v.n v.s) (hq : base ≤ q) (hnq : ¬ Ft p cs q) (hf : v.f = 0 ∨ v.f = 1) (hg : 0 ≤ v.g ∧ v.g ≤ 4611686018427387904) (A : Option Addr) (n c : Nat) (s : List Int) (hr : RdB w A n s) (hn : n + 8 ≤ 140737488355328) (hS : S + 1048584 ≤ 70368744177664) (hN : N + 3 ≤ 4611686018427387904) (ht : Table w) :
    Calls Tryd.prog 19 #[.pointer (some ⟨q, 0, none⟩), .slice A n c] w (RetV w base p cs q (vckR d v s)) := by
  have hl := hr.len
  have HF := Lib.hid (first_any (v.g + 1) (by omega) A n c s w hr hn ht)
  have H := Lib.hid h
  have HK := Lib.hid hk
  have HV := Lib.hid hv
  have HNQ := Lib.hid hnq
  have hbs := h.base_le
  have hql := hv.lt
  obtain ⟨e0, e1, e2, e3, e4⟩ := hv.cells
  clear h hk hv hr ht hnq e3
  by_cases hlong : 1048576 < 8 + s.length
  · have HA : Hid (vckR d v s = (d, v, 3)) := Lib.hid (if_pos hlong)
    rw [firstR_long hlong] at HF
    go_enter Tryd.func19, Tryd.ntmps19
    go_wp2_with fail
    refine HF.out.mono ?_
    rintro e w2 ⟨A2, n2, c2, rfl, ho, hb⟩
    have H2 := Lib.hid (H.out.below hb)
    have HV2 := Lib.hid (HV.out.below hb)
    have S2 := Lib.hid (DStep.below (p := p) (cs := cs) hb hbs)
    clear ho hb
    go_wp2
    go_ret
    rw [HA.out]
    exact ⟨rfl, cs, H2.out, VStep.of S2.out, HV2.out, HNQ.out⟩
  · have HA : Hid (vckR d v s = _) := Lib.hid (if_neg hlong)
    rw [firstR_ok hlong] at HF
    have HFB : Hid ((firstB (v.g + 1) s).length = 8 + (8 + n)) := Lib.hid (by unfold firstB; rw [fenc_len, List.length_append, le8_len]; omega)
    go_enter Tryd.func19, Tryd.ntmps19
    go_wp2_with fail
    refine HF.out.mono ?_
    rintro e w2 ⟨A2, n2, c2, rfl, ho, hb⟩
    have HO2 := Lib.hid ho
    have hl2 := ho.len
    rw [HFB.out] at hl2
    have hs2 := hb.size
    have H2 := Lib.hid (H.out.below hb)
    have HV2 := Lib.hid (HV.out.below hb)
    have S2 := Lib.hid (DStep.below (p := p) (cs := cs) hb hbs)
    clear ho hb e0 e1 e2 e4
    obtain ⟨e0, e1, e2, e3, e4⟩ := HV2.out.cells
    by_cases hgb : 4611686018427387904 ≤ v.g
    · have HA := Lib.hid (HA.out.trans (if_pos hgb))
      go_wp2
      go_ret
      rw [HA.out]
      exact ⟨rfl, cs, H2.out, VStep.of S2.out, HV2.out, HNQ.out⟩
    have HA := Lib.hid (HA.out.trans (if_neg hgb))
    by_cases hsk : v.s = 0
    · have HA := Lib.hid (HA.out.trans (if_neg (fun h => h hsk)))
      have HSK := Lib.hid hsk
      rw [hsk] at e4
      clear hsk e3
      have hfb : 0 ≤ v.f ∧ v.f ≤ 1 := by omega
      go_wp2_with fail
      go_still_tail 10, (by kernel_rfl)
      have H3 := Lib.hid H2.out.drewd
      have S3 := Lib.hid S2.out.drewd
      have HV3 := Lib.hid (HV2.out.below (Below.refl _ w2).drew)
      have HO3 := Lib.hid (HO2.out.below (Below.refl _ w2).drew)
      change wpList _ _ _ _ _ w2.drew
      generalize w2.drew = w3 at H3 S3 HV3 HO3 ⊢
      clear e0 e1 e2 e4
      have HB := Lib.hid (begin_any H3.out HK.out (1 - v.f) A2 n2 c2 (firstB (v.g + 1) s) HO3.out.rd (by omega) (by omega))
      have hfbl := HFB.out
      have HKB := Lib.hid ((Ok.begin_ HK.out (1 - v.f) (firstB (v.g + 1) s)).fit (by omega) (by omega))
      by_cases hb0 : (beginR d (1 - v.f) (firstB (v.g + 1) s)).2 = 0
      · have HA := Lib.hid (HA.out.trans (if_neg (fun h => h hb0)))
        rw [hb0] at HB
        generalize (beginR d (1 - v.f) (firstB (v.g + 1) s)).1 = d1 at HB HA HKB
        clear hb0
        go_wp2_with fail
        refine HB.out.mono ?_
        rintro e w4 ⟨rfl, cs4, h4, s4⟩
        have S4 := Lib.hid (S3.out.trans s4)
        have H4 := Lib.hid h4
        have HV4 := Lib.hid (HV3.out.kept s4.keep HNQ.out)
        have HNQ4 : Hid (¬ Ft p cs4 q) := Lib.hid fun h => by
          rcases S4.out.foot q h with h | h
          · exact HNQ.out h
          · omega
        have hs4 := S4.out.keep.1
        clear h4 s4
        obtain ⟨e0, e1, e2, e3, e4⟩ := HV4.out.cells
        have f1 := HV4.out.free 1
        have f2 := HV4.out.free 2
        have f3 := HV4.out.free 3
        go_upto_region 13 with fail
        go_cut [] from 57 to 76 (fun wx => wx = (((w4.setCell ⟨q, 1, none⟩ (.int .i64 (1 - v.f))).setCell ⟨q, 2, none⟩ (.int .i64 (v.g + 1))).setCell ⟨q, 3, none⟩ (.int .i64 0)).drew)
        case first =>
          go_region
          all_goals go_wp2_with fail
          all_goals go_meet
          all_goals (case rel => rfl)
        case rest =>
          have SC : Hid (VStep w base p cs q wc cs4) := Lib.hid (by
            rw [hcut]
            exact ((((VStep.set S4.out hq 1 _).put hq 2 _).put hq 3 _)).drew)
          have HVC : Hid (VB wc q p (1 - v.f) (v.g + 1) 0 v.s) := Lib.hid ⟨by
            rw [hcut]
            have h1 : VB (w4.setCell ⟨q, 1, none⟩ (.int .i64 (1 - v.f))) q p (1 - v.f) v.g v.n v.s := ⟨VB.put HV4.out 1 _⟩
            have h2 : VB ((w4.setCell ⟨q, 1, none⟩ (.int .i64 (1 - v.f))).setCell ⟨q, 2, none⟩ (.int .i64 (v.g + 1))) q p (1 - v.f) (v.g + 1) v.n v.s := ⟨VB.put h1 2 _⟩
            exact VB.put h2 3 (.int .i64 0)⟩
          have HC : Hid (DAt wc base p cs4 d1) := Lib.hid (by
            rw [hcut]
            exact (DAt.vset (DAt.vset (DAt.vset H4.out HNQ4.out 1 _) HNQ4.out 2 _) HNQ4.out 3 _).drewd)
          have hsc : w4.heap.size ≤ wc.heap.size := by rw [hcut]; simp [World.setCell]
          clear hcut e0 e1 e2 e3 e4 f1 f2 f3
          obtain ⟨e0, e1, e2, e3, e4⟩ := HVC.out.cells
          have hsk := HSK.out
          rw [hsk] at e4
          clear hsk e2 e3
          go_wp2_with fail
          go_still_tail 9, (by kernel_rfl)
          have H5 := Lib.hid HC.out.drewd
          have S5 := Lib.hid SC.out.drew
          have HV5 := Lib.hid (HVC.out.below (Below.refl _ wc).drew)
          have hs5 : wc.drew.heap.size = wc.heap.size := rfl
          change wpList _ _ _ _ _ wc.drew
          generalize wc.drew = w5 at H5 S5 HV5 hs5 ⊢
          clear e0 e1 e4
          have HT := Lib.hid (trunc_any H5.out HKB.out (1 - (1 - v.f)) 0 (by omega))
          by_cases hc0 : (cutR d1 (1 - (1 - v.f)) 0).2 = 0
          · have HA := Lib.hid (HA.out.trans (if_neg (fun h => h hc0)))
            rw [hc0] at HT
            generalize (cutR d1 (1 - (1 - v.f)) 0).1 = d2 at HT HA
            clear hc0
            go_wp2_with fail
            refine HT.out.mono ?_
            rintro e w6 ⟨rfl, cs6, h6, s6⟩
            have S6 := Lib.hid (S5.out.then s6)
            have H6 := Lib.hid h6
            have HV6 := Lib.hid (HV5.out.kept s6.keep HNQ4.out)
            have HNQ6 : Hid (¬ Ft p cs6 q) := Lib.hid fun h => by
              rcases s6.foot q h with h | h
              · exact HNQ4.out h
              · omega
            clear h6 s6
            go_wp2
            go_ret
            rw [HA.out]
            exact ⟨rfl, cs6, H6.out, S6.out, HV6.out, HNQ6.out⟩
          · have HA := Lib.hid (HA.out.trans (if_pos hc0))
            have hc1 : ((cutR d1 (1 - (1 - v.f)) 0).2 == 0) = false := beq_eq_false_iff_ne.2 hc0
            have hc2 : ((cutR d1 (1 - (1 - v.f)) 0).2 != 0) = true := by simp [hc0]
            clear hc0
            generalize cutR d1 (1 - (1 - v.f)) 0 = r at HT HA hc1 hc2
            go_wp2_with fail
            refine HT.out.mono ?_
            rintro e w6 ⟨rfl, cs6, h6, s6⟩
            have S6 := Lib.hid (S5.out.then s6)
            have H6 := Lib.hid h6
            have HV6 := Lib.hid (HV5.out.kept s6.keep HNQ4.out)
            have HNQ6 : Hid (¬ Ft p cs6 q) := Lib.hid fun h => by
              rcases s6.foot q h with h | h
              · exact HNQ4.out h
              · omega
            clear h6 s6
            have HI := Lib.hid (ill_any HV6.out r.2)
            go_wp2_with fail
            refine HI.out.mono ?_
            rintro e w7 ⟨rfl, rfl⟩
            go_wp2
            go_ret
            rw [HA.out]
            exact ⟨rfl, cs6, DAt.vset H6.out HNQ6.out 4 _, S6.out.put hq 4 _, ⟨VB.put HV6.out 4 (.int .i64 r.2)⟩, HNQ6.out⟩
      · have HA := Lib.hid (HA.out.trans (if_pos hb0))
        have hb1 : ((beginR d (1 - v.f) (firstB (v.g + 1) s)).2 == 0) = false := beq_eq_false_iff_ne.2 hb0
        have hb2 : ((beginR d (1 - v.f) (firstB (v.g + 1) s)).2 != 0) = true := by simp [hb0]
        clear hb0
        generalize beginR d (1 - v.f) (firstB (v.g + 1) s) = r at HB HA hb1 hb2 HKB
        go_wp2_with fail
        refine HB.out.mono ?_
        rintro e w4 ⟨rfl, cs4, h4, s4⟩
        have S4 := Lib.hid (S3.out.trans s4)
        have H4 := Lib.hid h4
        have HV4 := Lib.hid (HV3.out.kept s4.keep HNQ.out)
        have HNQ4 : Hid (¬ Ft p cs4 q) := Lib.hid fun h => by
          rcases S4.out.foot q h with h | h
          · exact HNQ.out h
          · omega
        clear h4 s4
        have HI := Lib.hid (ill_any HV4.out r.2)
        go_wp2_with fail
        refine HI.out.mono ?_
        rintro e w5 ⟨rfl, rfl⟩
        go_wp2
        go_ret
        rw [HA.out]
        exact ⟨rfl, cs4, DAt.vset H4.out HNQ4.out 4 _, VStep.set S4.out hq 4 _, ⟨VB.put HV4.out 4 (.int .i64 r.2)⟩, HNQ4.out⟩
    · have HA := Lib.hid (HA.out.trans (if_pos hsk))
      have hb1 : (v.s == 0) = false := beq_eq_false_iff_ne.2 hsk
      have hb2 : (v.s != 0) = true := by simp [hsk]
      clear hsk e3
      go_wp2
      go_ret
      rw [HA.out]
      exact ⟨rfl, cs, H2.out, VStep.of S2.out, HV2.out, HNQ.out⟩
end Go.Proofs.YtfinaikgikifcaaDoor.vaulta
/- A vault's disk while the power stays: plain Lean. -/
namespace Go.Proofs.YtfinaikgikifcaaDoor.vaultp
open Go.RowKit Go.Shelf Go.Proofs.YtfinaikgikifcaaDoorW.PrintWords Go.Proofs.YtfinaikgikifcaaDoor.base Go.Proofs.YtfinaikgikifcaaDoor.mem Go.Proofs.YtfinaikgikifcaaDoor.crcp Go.Proofs.YtfinaikgikifcaaDoor.crcw Go.Proofs.YtfinaikgikifcaaDoor.samew Go.Proofs.YtfinaikgikifcaaDoor.framep Go.Proofs.YtfinaikgikifcaaDoor.frameit Go.Proofs.YtfinaikgikifcaaDoor.framem Go.Proofs.YtfinaikgikifcaaDoor.framel Go.Proofs.YtfinaikgikifcaaDoor.framea Go.Proofs.YtfinaikgikifcaaDoor.framer Go.Proofs.YtfinaikgikifcaaDoor.framen Go.Proofs.YtfinaikgikifcaaDoor.diskp Go.Proofs.YtfinaikgikifcaaDoor.diskr Go.Proofs.YtfinaikgikifcaaDoor.diskw Go.Proofs.YtfinaikgikifcaaDoor.vaulta

theorem Ok.vapp {d : D} {S N : Nat} (h : Ok d S N) (v : Vn) (ys : List Int) : Ok (vappR d v ys).1 (S + 1048584) (N + 2) := by
  unfold vappR
  split
  · exact h.more (by omega) (by omega)
  · have hl := fenc_len ys
    split
    · exact h.more (by omega) (by omega)
    · split
      · exact (Ok.begin_ h _ (fenc ys)).more (by omega) (by omega)
      · exact (Ok.begin_ h _ (fenc ys)).more (by omega) (by omega)
theorem Ok.vck {d : D} {S N : Nat} (h : Ok d S N) (v : Vn) (s : List Int) : Ok (vckR d v s).1 (S + 1048584) (N + 3) := by
  unfold vckR
  split
  · exact h.more (by omega) (by omega)
  · have hl : (firstB (v.g + 1) s).length = 8 + (8 + s.length) := by unfold firstB; rw [fenc_len, List.length_append, le8_len]
    split
    · exact h.more (by omega) (by omega)
    · split
      · exact h.more (by omega) (by omega)
      · split
        · exact (Ok.begin_ h _ (firstB (v.g + 1) s)).more (by omega) (by omega)
        · split
          · exact ((Ok.begin_ h _ (firstB (v.g + 1) s)).cut _ _).more (by omega) (by omega)
          · exact ((Ok.begin_ h _ (firstB (v.g + 1) s)).cut _ _).more (by omega) (by omega)
/-- the power is on, and no write is armed -/
structure Live (d : D) : Prop where
  off : d.off = false
  a : d.a = 0
theorem raw_live {d : D} (h : Live d) : rawD d = (⟨d.b, d.off, d.n + 1, d.a, d.k⟩, false) := by unfold rawD; rw [if_pos h.a]
theorem gone_live {d : D} (h : Live d) : gone d = ⟨d.b, d.off, d.n + 1, d.a, d.k⟩ := by unfold gone; rw [raw_live h]; rfl
theorem rdy_live {d : D} (h : Live d) {f : Int} (hf : f = 0 ∨ f = 1) : rdy d f = 0 := by unfold rdy; rw [h.off, if_neg (by omega)]; rfl
theorem ans_false : ans false = 0 := rfl
theorem app_live {d : D} (h : Live d) {f : Nat} (hf : f < 2) (ys : List Int) : (appR d f ys).2 = 0 ∧ Live (appR d f ys).1 ∧ (appR d f ys).1.n = d.n + 1 ∧ (appR d f ys).1.b (2 * f + 1) = d.b (2 * f + 1) ++ ys ∧ ∀ i, i ≠ 2 * f + 1 → (appR d f ys).1.b i = d.b i := by
  have hr : rdy d (f : Int) = 0 := rdy_live h (by omega)
  have hp : Live (putB d (2 * f + 1) (d.b (2 * f + 1) ++ ys)) := ⟨h.off, h.a⟩
  unfold appR
  rw [hr, if_neg (by simp), raw_live h]
  unfold appD
  rw [Int.toNat_natCast, gone_live hp]
  exact ⟨rfl, ⟨h.off, h.a⟩, rfl, upd_same _ _ _, fun i hi => upd_ne _ _ hi⟩
theorem sync_live {d : D} (h : Live d) {f : Nat} (hf : f < 2) : (syncR d f).2 = 0 ∧ Live (syncR d f).1 ∧ (syncR d f).1.n = d.n + 1 ∧ (syncR d f).1.b (2 * f) = d.b (2 * f) ++ d.b (2 * f + 1) ∧ (syncR d f).1.b (2 * f + 1) = [] ∧ ∀ i, i ≠ 2 * f → i ≠ 2 * f + 1 → (syncR d f).1.b i = d.b i := by
  have hr : rdy d (f : Int) = 0 := rdy_live h (by omega)
  unfold syncR
  rw [hr, if_neg (by simp), raw_live h]
  unfold syncD
  rw [Int.toNat_natCast, raw_live h, gone_live h]
  refine ⟨rfl, ⟨h.off, h.a⟩, rfl, ?_, ?_, fun i h1 h2 => ?_⟩
  · show upd (upd d.b (2 * f) _) (2 * f + 1) [] (2 * f) = _
    rw [upd_ne _ _ (by omega), upd_same]
  · exact upd_same _ _ _
  · show upd (upd d.b (2 * f) _) (2 * f + 1) [] i = _
    rw [upd_ne _ _ h2, upd_ne _ _ h1]
theorem cut_live {d : D} (h : Live d) {f : Nat} (hf : f < 2) {n : Nat} (hn : n ≤ (fileB d f).length) : (cutR d f n).2 = 0 ∧ Live (cutR d f n).1 ∧ (cutR d f n).1.n = d.n + 1 ∧ (cutR d f n).1.b (2 * f) = (d.b (2 * f)).take n ∧ (cutR d f n).1.b (2 * f + 1) = (d.b (2 * f + 1)).take (n - (d.b (2 * f)).length) ∧ ∀ i, i ≠ 2 * f → i ≠ 2 * f + 1 → (cutR d f n).1.b i = d.b i := by
  have hr : rdy d (f : Int) = 0 := rdy_live h (by omega)
  unfold cutR
  rw [hr, if_neg (by simp), Int.toNat_natCast, if_neg (by omega), if_neg (by simp), raw_live h]
  unfold cutD
  rw [Int.toNat_natCast, raw_live h, gone_live h]
  refine ⟨rfl, ⟨h.off, h.a⟩, rfl, ?_, ?_, fun i h1 h2 => ?_⟩
  · exact upd_same _ _ _
  · show upd (upd d.b (2 * f + 1) _) (2 * f) _ (2 * f + 1) = _
    rw [upd_ne _ _ (by omega), upd_same]
  · show upd (upd d.b (2 * f + 1) _) (2 * f) _ i = _
    rw [upd_ne _ _ h1, upd_ne _ _ h2]
theorem begin_live {d : D} (h : Live d) {f : Nat} (hf : f < 2) (ys : List Int) : (beginR d f ys).2 = 0 ∧ Live (beginR d f ys).1 ∧ (beginR d f ys).1.n = d.n + 2 ∧ (beginR d f ys).1.b (2 * f) = d.b (2 * f) ++ (d.b (2 * f + 1) ++ ys) ∧ (beginR d f ys).1.b (2 * f + 1) = [] ∧ ∀ i, i ≠ 2 * f → i ≠ 2 * f + 1 → (beginR d f ys).1.b i = d.b i := by
  obtain ⟨a1, a2, a3, a4, a5⟩ := app_live h hf ys
  obtain ⟨s1, s2, s3, s4, s5, s6⟩ := sync_live a2 hf
  unfold beginR
  rw [if_pos a1]
  exact ⟨s1, s2, by rw [s3, a3]; omega, by rw [s4, a4, a5 _ (by omega)], s5, fun i h1 h2 => by rw [s6 i h1 h2, a5 i h2]⟩
theorem wipe_live {d : D} (h : Live d) {f : Nat} (hf : f < 2) : (wipeR d f (fileB d f).length).2 = 0 ∧ Live (wipeR d f (fileB d f).length).1 ∧ d.n ≤ (wipeR d f (fileB d f).length).1.n ∧ (fileB d f = [] → (wipeR d f (fileB d f).length).1.n = d.n) ∧ (wipeR d f (fileB d f).length).1.b (2 * f) = [] ∧ (wipeR d f (fileB d f).length).1.b (2 * f + 1) = [] ∧ ∀ i, i ≠ 2 * f → i ≠ 2 * f + 1 → (wipeR d f (fileB d f).length).1.b i = d.b i := by
  unfold wipeR
  by_cases h0 : ((fileB d f).length : Int) = 0
  · rw [if_pos h0]
    have he : fileB d f = [] := List.eq_nil_of_length_eq_zero (by omega)
    unfold fileB at he
    rw [List.append_eq_nil_iff] at he
    exact ⟨rfl, h, Int.le_refl _, fun _ => rfl, he.1, he.2, fun _ _ _ => rfl⟩
  · rw [if_neg h0]
    obtain ⟨c1, c2, c3, c4, c5, c6⟩ := cut_live h hf (n := 0) (by omega)
    refine ⟨c1, c2, by have := c3; show d.n ≤ (cutR d f ((0 : Nat) : Int)).1.n; omega, fun he => by rw [he] at h0; exact absurd rfl h0, by rw [show (0 : Int) = ((0 : Nat) : Int) from rfl, c4]; rfl, by rw [show (0 : Int) = ((0 : Nat) : Int) from rfl, c5]; simp, c6⟩
/-- a vault lies on the disk: one file with its frames, the other one empty -/
structure Neat (d : D) (f : Nat) (g : Int) (s : List Int) (rs : List (List Int)) : Prop where
  live : Live d
  hf : f < 2
  hg : 1 ≤ g ∧ g ≤ 4611686018427387904
  hs : 8 + s.length ≤ 1048576
  hr : ∀ r ∈ rs, r.length ≤ 1048576
  by_ : By s
  b : d.b (2 * f) = fencs ((le8 g ++ s) :: rs)
  w : d.b (2 * f + 1) = []
  o : d.b (2 * (1 - f)) = [] ∧ d.b (2 * (1 - f) + 1) = []
end Go.Proofs.YtfinaikgikifcaaDoor.vaultp
/- What an opening finds on a clean disk, and that an opening makes a disk clean: plain Lean. -/
namespace Go.Proofs.YtfinaikgikifcaaDoor.vaultp
open Go.RowKit Go.Shelf Go.Proofs.YtfinaikgikifcaaDoorW.PrintWords Go.Proofs.YtfinaikgikifcaaDoor.base Go.Proofs.YtfinaikgikifcaaDoor.mem Go.Proofs.YtfinaikgikifcaaDoor.crcp Go.Proofs.YtfinaikgikifcaaDoor.crcw Go.Proofs.YtfinaikgikifcaaDoor.samew Go.Proofs.YtfinaikgikifcaaDoor.framep Go.Proofs.YtfinaikgikifcaaDoor.framew Go.Proofs.YtfinaikgikifcaaDoor.frameit Go.Proofs.YtfinaikgikifcaaDoor.framem Go.Proofs.YtfinaikgikifcaaDoor.framel Go.Proofs.YtfinaikgikifcaaDoor.framea Go.Proofs.YtfinaikgikifcaaDoor.framer Go.Proofs.YtfinaikgikifcaaDoor.framen Go.Proofs.YtfinaikgikifcaaDoor.diskp Go.Proofs.YtfinaikgikifcaaDoor.diskr Go.Proofs.YtfinaikgikifcaaDoor.diskw Go.Proofs.YtfinaikgikifcaaDoor.vaulta

theorem getD_le8 (g : Int) (s : List Int) {i : Nat} (hi : i < 8) : (le8 g ++ s).getD i 0 = byte8 g i := by
  rw [List.getD_eq_getElem?_getD, List.getElem?_append_left (by rw [le8_len]; exact hi)]
  unfold le8
  rw [List.getElem?_map, List.getElem?_range hi]
  rfl
theorem byte8_nat (m i : Nat) : byte8 (m : Int) i = ((m / 2 ^ (8 * i) % 256 : Nat) : Int) := by
  unfold byte8
  rw [show (2 : Int) ^ (8 * i) = ((2 ^ (8 * i) : Nat) : Int) from (Int.natCast_pow 2 (8 * i)).symm]
  omega
theorem leP_le8 (m : Nat) (s : List Int) : ∀ k, k ≤ 8 → leP (le8 (m : Int) ++ s) k = ((m % 256 ^ k : Nat) : Int)
  | 0, _ => by
    rw [Nat.pow_zero, Nat.mod_one]
    rfl
  | k + 1, h => by
    have ep : (256 : Nat) ^ k = 2 ^ (8 * k) := by rw [show (256 : Nat) = 2 ^ 8 from rfl, ← Nat.pow_mul]
    unfold leP
    rw [leP_le8 m s k (by omega), getD_le8 _ _ (by omega), byte8_nat, Nat.pow_succ, Nat.mod_mul, ep]
    rw [show (256 : Int) ^ k = ((2 ^ (8 * k) : Nat) : Int) from by rw [← ep]; exact (Int.natCast_pow 256 k).symm, Int.natCast_add, Int.natCast_mul]
theorem leN_le8 {g : Int} (hg : 0 ≤ g ∧ g ≤ 4611686018427387905) (s : List Int) : leN (le8 g ++ s) = g := by
  obtain ⟨m, rfl⟩ := Int.eq_ofNat_of_zero_le hg.1
  unfold leN
  rw [leP_le8 m s 8 (by omega), Nat.mod_eq_of_lt]
  have : (256 : Nat) ^ 8 = 18446744073709551616 := by decide
  omega
theorem good_le8 {g : Int} (hg : 1 ≤ g ∧ g ≤ 4611686018427387904) (s : List Int) : goodP (le8 g ++ s) := by
  refine ⟨by rw [List.length_append, le8_len]; omega, ?_⟩
  rw [leN_le8 (by omega)]
  exact hg
theorem drop_le8 (g : Int) (s : List Int) : (le8 g ++ s).drop 8 = s := List.drop_left' (le8_len g)
theorem bytes8 {x0 x1 x2 x3 x4 x5 x6 x7 : Int} (h0 : 0 ≤ x0 ∧ x0 ≤ 255) (h1 : 0 ≤ x1 ∧ x1 ≤ 255) (h2 : 0 ≤ x2 ∧ x2 ≤ 255) (h3 : 0 ≤ x3 ∧ x3 ≤ 255) (h4 : 0 ≤ x4 ∧ x4 ≤ 255) (h5 : 0 ≤ x5 ∧ x5 ≤ 255) (h6 : 0 ≤ x6 ∧ x6 ≤ 255) (h7 : 0 ≤ x7 ∧ x7 ≤ 255) :
    byte8 (x0 + 256 * x1 + 65536 * x2 + 16777216 * x3 + 4294967296 * x4 + 1099511627776 * x5 + 281474976710656 * x6 + 72057594037927936 * x7) 0 = x0 ∧
    byte8 (x0 + 256 * x1 + 65536 * x2 + 16777216 * x3 + 4294967296 * x4 + 1099511627776 * x5 + 281474976710656 * x6 + 72057594037927936 * x7) 1 = x1 ∧
    byte8 (x0 + 256 * x1 + 65536 * x2 + 16777216 * x3 + 4294967296 * x4 + 1099511627776 * x5 + 281474976710656 * x6 + 72057594037927936 * x7) 2 = x2 ∧
    byte8 (x0 + 256 * x1 + 65536 * x2 + 16777216 * x3 + 4294967296 * x4 + 1099511627776 * x5 + 281474976710656 * x6 + 72057594037927936 * x7) 3 = x3 ∧
    byte8 (x0 + 256 * x1 + 65536 * x2 + 16777216 * x3 + 4294967296 * x4 + 1099511627776 * x5 + 281474976710656 * x6 + 72057594037927936 * x7) 4 = x4 ∧
    byte8 (x0 + 256 * x1 + 65536 * x2 + 16777216 * x3 + 4294967296 * x4 + 1099511627776 * x5 + 281474976710656 * x6 + 72057594037927936 * x7) 5 = x5 ∧
    byte8 (x0 + 256 * x1 + 65536 * x2 + 16777216 * x3 + 4294967296 * x4 + 1099511627776 * x5 + 281474976710656 * x6 + 72057594037927936 * x7) 6 = x6 ∧
    byte8 (x0 + 256 * x1 + 65536 * x2 + 16777216 * x3 + 4294967296 * x4 + 1099511627776 * x5 + 281474976710656 * x6 + 72057594037927936 * x7) 7 = x7 := by
  unfold byte8
  rw [show (2 : Int) ^ (8 * 0) = 1 from by decide, show (2 : Int) ^ (8 * 1) = 256 from by decide, show (2 : Int) ^ (8 * 2) = 65536 from by decide, show (2 : Int) ^ (8 * 3) = 16777216 from by decide, show (2 : Int) ^ (8 * 4) = 4294967296 from by decide, show (2 : Int) ^ (8 * 5) = 1099511627776 from by decide, show (2 : Int) ^ (8 * 6) = 281474976710656 from by decide, show (2 : Int) ^ (8 * 7) = 72057594037927936 from by decide]
  refine ⟨?_, ?_, ?_, ?_, ?_, ?_, ?_, ?_⟩ <;> omega
/-- the eight bytes again -/
theorem le8_leN {p : List Int} (h : By p) (h8 : 8 ≤ p.length) : le8 (leN p) ++ p.drop 8 = p := by
  have key : ∀ i, i < 8 → byte8 (leN p) i = p.getD i 0 := by
    have e1 : leN p = p.getD 0 0 + 256 * p.getD 1 0 + 65536 * p.getD 2 0 + 16777216 * p.getD 3 0 + 4294967296 * p.getD 4 0 + 1099511627776 * p.getD 5 0 + 281474976710656 * p.getD 6 0 + 72057594037927936 * p.getD 7 0 := by
      unfold leN
      simp only [leP]
      omega
    have b0 := By.getD h 0
    have b1 := By.getD h 1
    have b2 := By.getD h 2
    have b3 := By.getD h 3
    have b4 := By.getD h 4
    have b5 := By.getD h 5
    have b6 := By.getD h 6
    have b7 := By.getD h 7
    have h8b := bytes8 b0 b1 b2 b3 b4 b5 b6 b7
    rw [← e1] at h8b
    intro i hi
    match i, hi with
    | 0, _ => exact h8b.1
    | 1, _ => exact h8b.2.1
    | 2, _ => exact h8b.2.2.1
    | 3, _ => exact h8b.2.2.2.1
    | 4, _ => exact h8b.2.2.2.2.1
    | 5, _ => exact h8b.2.2.2.2.2.1
    | 6, _ => exact h8b.2.2.2.2.2.2.1
    | 7, _ => exact h8b.2.2.2.2.2.2.2
  have e : le8 (leN p) = p.take 8 := by
    apply List.ext_getElem?
    intro i
    rcases Nat.lt_or_ge i 8 with hi | hi
    · have := key i hi
      have hip : i < p.length := by omega
      rw [List.getD_eq_getElem?_getD, List.getElem?_eq_getElem hip, Option.getD_some] at this
      rw [List.getElem?_take_of_lt hi, List.getElem?_eq_getElem hip]
      unfold le8
      rw [List.getElem?_map, List.getElem?_range hi, Option.map_some, this]
    · rw [List.getElem?_eq_none (by rw [le8_len]; exact hi), List.getElem?_eq_none (by rw [List.length_take]; omega)]
  rw [e, List.take_append_drop]

/-! ### frames are what they must be -/
theorem firstN_body {xs : List Int} (h : By xs) (h0 : firstN xs ≠ 0) : xs.take (firstN xs) = fenc ((xs.drop 8).take (firstN xs - 8)) ∧ ((xs.drop 8).take (firstN xs - 8)).length = firstN xs - 8 ∧ firstN xs - 8 ≤ 1048576 := by
  have hg := firstN_ge xs h0
  have hl := firstN_le xs
  have h0' := h0
  unfold firstN at h0'
  by_cases h8 : xs.length < 8
  · rw [if_pos h8] at h0'; exact absurd rfl h0'
  · rw [if_neg h8] at h0'
    by_cases hc : 1048576 < (w4 xs).toNat ∨ xs.length - 8 < (w4 xs).toNat ∨ parts 0 [xs.take 4, (xs.drop 8).take (w4 xs).toNat] ≠ w4 (xs.drop 4)
    · rw [if_pos hc] at h0'; exact absurd rfl h0'
    · have hN : firstN xs = 8 + (w4 xs).toNat := by unfold firstN; rw [if_neg h8, if_neg hc]
      have h1 : ¬ 1048576 < (w4 xs).toNat := fun e => hc (.inl e)
      have h2 : ¬ xs.length - 8 < (w4 xs).toNat := fun e => hc (.inr (.inl e))
      have h3 : parts 0 [xs.take 4, (xs.drop 8).take (w4 xs).toNat] = w4 (xs.drop 4) := Classical.byContradiction fun e => hc (.inr (.inr e))
      have hw := w4_range h
      have hpl : ((xs.drop 8).take (w4 xs).toNat).length = (w4 xs).toNat := by rw [List.length_take, List.length_drop]; omega
      have hw0 : (0 : Int) ≤ w4 xs := hw.1
      rw [hN, show 8 + (w4 xs).toNat - 8 = (w4 xs).toNat from by omega]
      refine ⟨?_, hpl, by omega⟩
      have e1 := (first_iff (pl := (xs.drop 8).take (w4 xs).toNat) h (by omega) (by rw [hpl]; omega)).2 h3
      have e2 : (fenc ((xs.drop 8).take (w4 xs).toNat)).drop 8 = (xs.drop 8).take (w4 xs).toNat := rfl
      rw [← List.take_append_drop 8 (fenc ((xs.drop 8).take (w4 xs).toNat)), e1, e2, List.take_add]
theorem fencs_P : ∀ (n : Nat) (xs : List Int), xs.length ≤ n → By xs → fencs (P xs) = xs.take (E xs) ∧ ∀ p ∈ P xs, p.length ≤ 1048576 ∧ By p := by
  intro n
  induction n with
  | zero =>
    intro xs hn hb
    have : xs = [] := List.eq_nil_of_length_eq_zero (by omega)
    subst this
    obtain ⟨h1, h2⟩ := P_stop (xs := []) firstN_nil
    rw [h1, h2]
    exact ⟨rfl, by simp⟩
  | succ n ih =>
    intro xs hn hb
    by_cases h0 : firstN xs = 0
    · obtain ⟨h1, h2⟩ := P_stop h0
      rw [h1, h2]
      exact ⟨rfl, by simp⟩
    · obtain ⟨h1, h2⟩ := P_next h0
      obtain ⟨b1, b2, b3⟩ := firstN_body hb h0
      have hge := firstN_ge xs h0
      have hle := firstN_le xs
      obtain ⟨i1, i2⟩ := ih (xs.drop (firstN xs)) (by rw [List.length_drop]; omega) (hb.drop _)
      rw [h1, h2]
      refine ⟨?_, fun p hp => ?_⟩
      · show fenc _ ++ fencs (P (xs.drop (firstN xs))) = _
        rw [i1, ← b1, List.take_add]
      · rcases List.mem_cons.1 hp with rfl | hp
        · exact ⟨by rw [b2]; exact b3, (hb.drop 8).take _⟩
        · exact i2 p hp
end Go.Proofs.YtfinaikgikifcaaDoor.vaultp
/- Openings, records and checkpoints while the power stays: plain Lean. -/
namespace Go.Proofs.YtfinaikgikifcaaDoor.vaultp
open Go.RowKit Go.Shelf Go.Proofs.YtfinaikgikifcaaDoorW.PrintWords Go.Proofs.YtfinaikgikifcaaDoor.base Go.Proofs.YtfinaikgikifcaaDoor.mem Go.Proofs.YtfinaikgikifcaaDoor.crcp Go.Proofs.YtfinaikgikifcaaDoor.crcw Go.Proofs.YtfinaikgikifcaaDoor.samew Go.Proofs.YtfinaikgikifcaaDoor.framep Go.Proofs.YtfinaikgikifcaaDoor.frameit Go.Proofs.YtfinaikgikifcaaDoor.framem Go.Proofs.YtfinaikgikifcaaDoor.framel Go.Proofs.YtfinaikgikifcaaDoor.framea Go.Proofs.YtfinaikgikifcaaDoor.framer Go.Proofs.YtfinaikgikifcaaDoor.framen Go.Proofs.YtfinaikgikifcaaDoor.diskp Go.Proofs.YtfinaikgikifcaaDoor.diskr Go.Proofs.YtfinaikgikifcaaDoor.diskw Go.Proofs.YtfinaikgikifcaaDoor.vaulta

theorem P_nil : P [] = [] := (P_stop (xs := []) firstN_nil).1
theorem E_nil : E [] = 0 := (P_stop (xs := []) firstN_nil).2
theorem PE_fencs {ps : List (List Int)} (h : ∀ p ∈ ps, p.length ≤ 1048576) : P (fencs ps) = ps ∧ E (fencs ps) = (fencs ps).length := by
  have := P_fencs ps [] h
  rw [List.append_nil, P_nil, E_nil, List.append_nil, Nat.add_zero] at this
  exact this
theorem fencs_one (p : List Int) : fencs [p] = fenc p := by simp [fencs]
theorem lookF_nil : lookF [] = (0, [], []) := by unfold lookF; rw [P_nil]; rfl
section
variable {d : D} {f : Nat} {g : Int} {s : List Int} {rs : List (List Int)}
theorem Neat.lens (h : Neat d f g s rs) : ∀ p ∈ (le8 g ++ s) :: rs, p.length ≤ 1048576 := by
  intro p hp
  rcases List.mem_cons.1 hp with rfl | hp
  · rw [List.length_append, le8_len]; exact h.hs
  · exact h.hr p hp
theorem Neat.file (h : Neat d f g s rs) : fileB d f = fencs ((le8 g ++ s) :: rs) := by unfold fileB; rw [h.b, h.w, List.append_nil]
theorem Neat.other (h : Neat d f g s rs) : fileB d (1 - f) = [] := by unfold fileB; rw [h.o.1, h.o.2]; rfl
theorem Neat.look (h : Neat d f g s rs) : lookF (fileB d f) = (g, s, rs) := by
  unfold lookF
  rw [h.file, (PE_fencs h.lens).1, lookP_good _ (good_le8 h.hg s), leN_le8 (by have := h.hg; omega), drop_le8]
theorem Neat.pick (h : Neat d f g s rs) : pick d = f := by
  have h1 := h.look
  have h2 := h.other
  have hg := h.hg
  unfold vaultp.pick
  match f, h.hf with
  | 0, _ => rw [h1, show fileB d 1 = [] from h2, lookF_nil, if_neg (by simp; omega)]
  | 1, _ => rw [h1, show fileB d 0 = [] from h2, lookF_nil, if_pos (by simp; omega)]
theorem Neat.openR (h : Neat d f g s rs) {s' : List Int} (hs' : 8 + s'.length ≤ 1048576) : ∃ d', openR d s' = ⟨d', 0, ⟨f, g, s, rs⟩⟩ ∧ Neat d' f g s rs ∧ d'.n = d.n + 1 ∧ d'.k = d.k := by
  obtain ⟨s1, s2, s3, s4, s5, s6⟩ := sync_live h.live h.hf
  have hsk : (syncR d f).1.k = d.k := by
    have hr : rdy d (f : Int) = 0 := rdy_live h.live (by have := h.hf; omega)
    unfold syncR
    rw [hr, if_neg (by simp)]
    unfold syncD
    rw [raw_live h.live, gone_live h.live]
    rfl
  refine ⟨(syncR d f).1, ?_, ⟨s2, h.hf, h.hg, h.hs, h.hr, h.by_, by rw [s4, h.w, List.append_nil]; exact h.b, s5, ?_⟩, s3, hsk⟩
  · have hg := h.hg
    have hw : wipeR d ((1 : Int) - f) (fileB d (1 - f)).length = (d, 0) := by rw [h.other]; exact if_pos rfl
    have hE := (PE_fencs h.lens).2
    unfold vaultp.openR
    rw [if_neg (by omega), h.live.off, if_neg (by simp), h.pick, h.look, if_neg (by show ¬ g = 0; omega)]
    unfold oldR
    rw [hw, if_neg (by simp), h.look]
    have hm : mendR d f (E (fileB d f) : Nat) (fileB d f).length = syncR d f := by
      unfold mendR
      rw [h.file, hE, if_neg (by omega)]
    show (⟨(mendR d f (E (fileB d f) : Nat) (fileB d f).length).1, (mendR d f (E (fileB d f) : Nat) (fileB d f).length).2, ⟨f, g, s, rs⟩⟩ : Opn) = _
    rw [hm, s1]
  · have hf := h.hf
    exact ⟨by rw [s6 _ (by omega) (by omega)]; exact h.o.1, by rw [s6 _ (by omega) (by omega)]; exact h.o.2⟩
theorem Neat.app (h : Neat d f g s rs) {ys : List Int} (hy : ys.length ≤ 1048576) (n : Int) : ∃ d', vappR d ⟨f, g, n, 0⟩ ys = (d', ⟨f, g, n + 1, 0⟩, 0) ∧ Neat d' f g s (rs ++ [ys]) ∧ d'.n = d.n + 2 := by
  obtain ⟨b1, b2, b3, b4, b5, b6⟩ := begin_live h.live h.hf (fenc ys)
  refine ⟨(beginR d f (fenc ys)).1, ?_, ⟨b2, h.hf, h.hg, h.hs, fun r hr => ?_, h.by_, ?_, b5, ?_⟩, b3⟩
  · unfold vappR
    rw [if_neg (by omega), if_neg (by simp)]
    show (if (beginR d f (fenc ys)).2 ≠ 0 then _ else _) = _
    rw [if_neg (by simp [b1])]
  · rcases List.mem_append.1 hr with hr | hr
    · exact h.hr r hr
    · rw [List.mem_singleton.1 hr]; exact hy
  · rw [b4, h.b, h.w, List.nil_append, ← List.cons_append, fencs_snoc]
  · have hf := h.hf
    exact ⟨by rw [b6 _ (by omega) (by omega)]; exact h.o.1, by rw [b6 _ (by omega) (by omega)]; exact h.o.2⟩
theorem Neat.ck (h : Neat d f g s rs) (hg : g < 4611686018427387904) {s' : List Int} (hs : 8 + s'.length ≤ 1048576) (hb : By s') (n : Int) : ∃ d', vckR d ⟨f, g, n, 0⟩ s' = (d', ⟨((1 - f : Nat) : Int), g + 1, 0, 0⟩, 0) ∧ Neat d' (1 - f) (g + 1) s' [] := by
  have hf := h.hf
  have hg1 := h.hg
  have e1 : (1 : Int) - f = ((1 - f : Nat) : Int) := by omega
  have e2 : (1 : Int) - ((1 - f : Nat) : Int) = f := by omega
  obtain ⟨b1, b2, b3, b4, b5, b6⟩ := begin_live h.live (f := 1 - f) (by omega) (firstB (g + 1) s')
  obtain ⟨c1, c2, c3, c4, c5, c6⟩ := cut_live b2 (f := f) hf (n := 0) (by omega)
  refine ⟨(cutR (beginR d ((1 - f : Nat) : Int) (firstB (g + 1) s')).1 f 0).1, ?_, ⟨c2, by omega, by omega, hs, by simp, hb, ?_, ?_, ?_⟩⟩
  · unfold vckR
    rw [if_neg (by omega), if_neg (by show ¬ _ ≤ g; omega), if_neg (by simp)]
    show (if (beginR d (1 - (f : Int)) (firstB (g + 1) s')).2 ≠ 0 then _ else if (cutR (beginR d (1 - (f : Int)) (firstB (g + 1) s')).1 (1 - (1 - (f : Int))) 0).2 ≠ 0 then _ else ((cutR (beginR d (1 - (f : Int)) (firstB (g + 1) s')).1 (1 - (1 - (f : Int))) 0).1, (⟨1 - (f : Int), g + 1, 0, 0⟩ : Vn), (0 : Int))) = _
    rw [e1, e2, if_neg (by simp [b1]), if_neg (fun hne => hne c1)]
  · rw [show ((0 : Nat) : Int) = 0 from rfl] at c6
    rw [c6 _ (by omega) (by omega), b4, h.o.1, h.o.2, fencs_one]
    rfl
  · rw [show ((0 : Nat) : Int) = 0 from rfl] at c6
    rw [c6 _ (by omega) (by omega), b5]
  · rw [show 1 - (1 - f) = f from by omega]
    rw [show ((0 : Nat) : Int) = 0 from rfl] at c4 c5
    exact ⟨by rw [c4]; rfl, by rw [c5]; simp⟩
/-- any disk while the power stays: an opening finds or makes a vault, and leaves a clean disk -/
theorem any_open (hl : Live d) (hb : ∀ i, i < 4 → By (d.b i)) {s : List Int} (hs : 8 + s.length ≤ 1048576) (hby : By s) : ∃ d' v, openR d s = ⟨d', 0, v⟩ ∧ Neat d' v.f v.g v.s v.r ∧ ((lookF (fileB d (pick d))).1 = 0 → v = ⟨0, 1, s, []⟩) := by
  unfold openR
  rw [if_neg (by omega), hl.off, if_neg (by simp)]
  have hpk : pick d < 2 := by unfold pick; split <;> omega
  have hfb : ∀ i, i < 2 → By (fileB d i) := fun i hi => by unfold fileB; exact (hb _ (by omega)).append (hb _ (by omega))
  by_cases h0 : (lookF (fileB d (pick d))).1 = 0
  · rw [if_pos h0]
    obtain ⟨w1, w2, w3, _, w4, w5, w6⟩ := wipe_live hl (f := 0) (by omega)
    obtain ⟨b1, b2, b3, b4, b5, b6⟩ := begin_live w2 (f := 0) (by omega) (firstB 1 s)
    have hfo : fileB (beginR (wipeR d ((0 : Nat) : Int) (fileB d 0).length).1 ((0 : Nat) : Int) (firstB 1 s)).1 1 = fileB d 1 := by
      show (beginR (wipeR d ((0 : Nat) : Int) (fileB d 0).length).1 ((0 : Nat) : Int) (firstB 1 s)).1.b (2 * 1) ++ (beginR (wipeR d ((0 : Nat) : Int) (fileB d 0).length).1 ((0 : Nat) : Int) (firstB 1 s)).1.b (2 * 1 + 1) = _
      rw [b6 _ (by omega) (by omega), b6 _ (by omega) (by omega), w6 _ (by omega) (by omega), w6 _ (by omega) (by omega)]
      rfl
    obtain ⟨v1, v2, v3, _, v4, v5, v6⟩ := wipe_live b2 (f := 1) (by omega)
    rw [hfo] at v1 v2 v3 v4 v5 v6
    refine ⟨_, ⟨0, 1, s, []⟩, ?_, ⟨v2, by show 0 < 2; omega, by show 1 ≤ (1 : Int) ∧ (1 : Int) ≤ 4611686018427387904; omega, hs, by simp, hby, ?_, ?_, ?_⟩, fun _ => rfl⟩
    · unfold newR
      rw [if_neg (fun h => h w1), if_neg (fun h => h b1)]
      show (⟨_, (wipeR (beginR (wipeR d ((0 : Nat) : Int) (fileB d 0).length).1 ((0 : Nat) : Int) (firstB 1 s)).1 ((1 : Nat) : Int) (fileB d 1).length).2, _⟩ : Opn) = _
      rw [v1]
      rfl
    · rw [v6 _ (by show 2 * 0 ≠ 2 * 1; omega) (by show 2 * 0 ≠ 2 * 1 + 1; omega)]
      show _ = fencs [le8 1 ++ s]
      rw [fencs_one]
      refine b4.trans ?_
      rw [w4, w5]
      rfl
    · rw [v6 _ (by show 2 * 0 + 1 ≠ 2 * 1; omega) (by show 2 * 0 + 1 ≠ 2 * 1 + 1; omega)]
      exact b5
    · exact ⟨v4, v5⟩
  · rw [if_neg h0]
    generalize hf : pick d = f at *
    have e1 : (1 : Int) - f = ((1 - f : Nat) : Int) := by omega
    obtain ⟨w1, w2, w3, _, w4, w5, w6⟩ := wipe_live hl (f := 1 - f) (by omega)
    have hff : fileB (wipeR d ((1 - f : Nat) : Int) (fileB d (1 - f)).length).1 f = fileB d f := by
      show (wipeR d ((1 - f : Nat) : Int) (fileB d (1 - f)).length).1.b (2 * f) ++ (wipeR d ((1 - f : Nat) : Int) (fileB d (1 - f)).length).1.b (2 * f + 1) = _
      rw [w6 _ (by omega) (by omega), w6 _ (by omega) (by omega)]
      rfl
    have hE := E_le (fileB d f)
    obtain ⟨p1, p2⟩ := fencs_P _ (fileB d f) (Nat.le_refl _) (hfb f hpk)
    -- what mend makes
    have hm : (mendR (wipeR d ((1 - f : Nat) : Int) (fileB d (1 - f)).length).1 f (E (fileB d f) : Nat) (fileB d f).length).2 = 0 ∧ Live (mendR (wipeR d ((1 - f : Nat) : Int) (fileB d (1 - f)).length).1 f (E (fileB d f) : Nat) (fileB d f).length).1 ∧
        (mendR (wipeR d ((1 - f : Nat) : Int) (fileB d (1 - f)).length).1 f (E (fileB d f) : Nat) (fileB d f).length).1.b (2 * f) = (fileB d f).take (E (fileB d f)) ∧
        (mendR (wipeR d ((1 - f : Nat) : Int) (fileB d (1 - f)).length).1 f (E (fileB d f) : Nat) (fileB d f).length).1.b (2 * f + 1) = [] ∧
        ∀ i, i ≠ 2 * f → i ≠ 2 * f + 1 → (mendR (wipeR d ((1 - f : Nat) : Int) (fileB d (1 - f)).length).1 f (E (fileB d f) : Nat) (fileB d f).length).1.b i = (wipeR d ((1 - f : Nat) : Int) (fileB d (1 - f)).length).1.b i := by
      generalize (wipeR d ((1 - f : Nat) : Int) (fileB d (1 - f)).length).1 = d1 at *
      unfold mendR
      by_cases hlt : ((E (fileB d f) : Nat) : Int) < ((fileB d f).length : Nat)
      · rw [if_pos hlt]
        obtain ⟨c1, c2, c3, c4, c5, c6⟩ := cut_live w2 hpk (n := E (fileB d f)) (by rw [hff]; exact hE)
        obtain ⟨s1, s2, s3, s4, s5, s6⟩ := sync_live c2 hpk
        rw [if_pos c1]
        refine ⟨s1, s2, ?_, s5, fun i h1 h2 => by rw [s6 i h1 h2, c6 i h1 h2]⟩
        rw [s4, c4, c5, ← List.take_append]
        exact congrArg (List.take _) hff
      · rw [if_neg hlt]
        obtain ⟨s1, s2, s3, s4, s5, s6⟩ := sync_live w2 hpk
        refine ⟨s1, s2, ?_, s5, s6⟩
        rw [s4, List.take_of_length_le (by omega), ← hff]
        rfl
    obtain ⟨m1, m2, m3, m4, m5⟩ := hm
    -- the payloads of the file
    have hlk : ∃ p r, P (fileB d f) = p :: r ∧ goodP p := by
      cases hP : P (fileB d f) with
      | nil => unfold lookF at h0; rw [hP] at h0; exact absurd rfl h0
      | cons p r =>
        by_cases hg : goodP p
        · exact ⟨p, r, rfl, hg⟩
        · unfold lookF at h0; rw [hP, lookP_bad r hg] at h0; exact absurd rfl h0
    obtain ⟨p, r, hP, hg⟩ := hlk
    have hlook : lookF (fileB d f) = (leN p, p.drop 8, r) := by unfold lookF; rw [hP, lookP_good r hg]
    have hpin := p2 p (by rw [hP]; simp)
    refine ⟨_, ⟨f, leN p, p.drop 8, r⟩, ?_, ⟨m2, hpk, hg.2, by show 8 + (p.drop 8).length ≤ _; rw [List.length_drop]; have := hg.1; omega, fun q hq => (p2 q (by rw [hP]; simp [hq])).1, hpin.2.drop 8, ?_, m4, ?_⟩, fun h => absurd h h0⟩
    · unfold oldR
      rw [e1, if_neg (fun h => h w1), hlook, m1]
    · rw [m3, ← p1, hP, le8_leN hpin.2 hg.1]
    · exact ⟨by rw [m5 _ (by show 2 * (1 - f) ≠ 2 * f; omega) (by show 2 * (1 - f) ≠ 2 * f + 1; omega)]; exact w4, by rw [m5 _ (by show 2 * (1 - f) + 1 ≠ 2 * f; omega) (by show 2 * (1 - f) + 1 ≠ 2 * f + 1; omega)]; exact w5⟩
theorem load_live (a b : List Int) : Live (diskp.load a b) := ⟨rfl, rfl⟩
theorem load_by {a b : List Int} (ha : By a) (hb : By b) : ∀ i, i < 4 → By ((diskp.load a b).b i) := fun i hi => by
  match i, hi with
  | 0, _ => exact ha
  | 1, _ => exact By_of _ (by simp [diskp.load])
  | 2, _ => exact hb
  | 3, _ => exact By_of _ (by simp [diskp.load])
theorem fresh_open {s : List Int} (hs : 8 + s.length ≤ 1048576) (hby : By s) : ∃ d', openR (diskp.load [] []) s = ⟨d', 0, ⟨0, 1, s, []⟩⟩ ∧ Neat d' 0 1 s [] := by
  obtain ⟨d', v, h1, h2, h3⟩ := any_open (load_live [] []) (load_by (By_of _ (by simp)) (By_of _ (by simp))) hs hby
  have h4 := h3 (by
    have e : ∀ f, f < 2 → fileB (diskp.load [] []) f = [] := fun f hf => by
      match f, hf with
      | 0, _ => rfl
      | 1, _ => rfl
    have hp : pick (diskp.load [] []) < 2 := by unfold pick; split <;> omega
    rw [e _ hp, lookF_nil])
  subst h4
  exact ⟨d', h1, h2⟩
/-- bounds of a disk on which a vault lies -/
theorem Neat.ok (h : Neat d f g s rs) {N : Nat} (hn : 0 ≤ d.n ∧ d.n ≤ N) (hk : -9223372036854775808 ≤ d.k ∧ d.k ≤ 9223372036854775807) : Ok d (fencs ((le8 g ++ s) :: rs)).length N := by
  have hf := h.hf
  refine ⟨?_, hn, by rw [h.live.a]; omega, hk⟩
  unfold tot
  match f, hf with
  | 0, _ => rw [h.b, h.w, h.o.1, h.o.2]; simp
  | 1, _ =>
    have h1 := h.o.1
    have h2 := h.o.2
    have h3 := h.b
    have h4 := h.w
    simp only [Nat.sub_self, Nat.mul_zero, Nat.mul_one, Nat.zero_add] at h1 h2 h3 h4 ⊢
    rw [h1, h2, h3, h4]
    simp
theorem Neat.count (h : Neat d f g s rs) (i : Nat) (hi : i < 2) : (P (fileB d i)).length ≤ rs.length + 1 := by
  have hf := h.hf
  by_cases e : i = f
  · subst e
    rw [h.file, (PE_fencs h.lens).1]
    simp
  · have : i = 1 - f := by omega
    subst this
    rw [h.other, P_nil]
    simp
theorem fencs_size (g : Int) (s : List Int) (rs : List (List Int)) : (fencs ((le8 g ++ s) :: rs)).length = 16 + s.length + (rs.length * 8 + rs.flatten.length) := by
  show (fenc (le8 g ++ s) ++ fencs rs).length = _
  rw [List.length_append, fenc_len, List.length_append, le8_len, fencs_len]
  omega
theorem Neat.small (h : Neat d f g s rs) {S N : Nat} (hk : Ok d S N) : 16 + s.length + (rs.length * 8 + rs.flatten.length) ≤ S := by
  rw [← fencs_size g s rs, ← h.b]
  exact hk.len _ (by have := h.hf; omega)
end
end Go.Proofs.YtfinaikgikifcaaDoor.vaultp
/- The laws' wakes; Open of disks on which the power stays. -/
namespace Go.Proofs.YtfinaikgikifcaaDoor.vaultk
open Go.RowKit Go.Shelf Go.Proofs.YtfinaikgikifcaaDoorW.PrintWords Go.Proofs.YtfinaikgikifcaaDoor.base Go.Proofs.YtfinaikgikifcaaDoor.mem Go.Proofs.YtfinaikgikifcaaDoor.keep Go.Proofs.YtfinaikgikifcaaDoor.crcp Go.Proofs.YtfinaikgikifcaaDoor.crcw Go.Proofs.YtfinaikgikifcaaDoor.samew Go.Proofs.YtfinaikgikifcaaDoor.framep Go.Proofs.YtfinaikgikifcaaDoor.framew Go.Proofs.YtfinaikgikifcaaDoor.frameit Go.Proofs.YtfinaikgikifcaaDoor.framem Go.Proofs.YtfinaikgikifcaaDoor.framel Go.Proofs.YtfinaikgikifcaaDoor.framea Go.Proofs.YtfinaikgikifcaaDoor.framer Go.Proofs.YtfinaikgikifcaaDoor.framen Go.Proofs.YtfinaikgikifcaaDoor.framek Go.Proofs.YtfinaikgikifcaaDoor.diskp Go.Proofs.YtfinaikgikifcaaDoor.diskr Go.Proofs.YtfinaikgikifcaaDoor.diskw Go.Proofs.YtfinaikgikifcaaDoor.vaultp Go.Proofs.YtfinaikgikifcaaDoor.vaultw Go.Proofs.YtfinaikgikifcaaDoor.vaultl Go.Proofs.YtfinaikgikifcaaDoor.vaulta Go.Proofs.YtfinaikgikifcaaDoor.vaulto

/-- Open answered a vault -/
def RetG (w : World) (base p : Nat) (cs : Nat → Sl) (d' : D) (v : Vt) (e : Ending) (w' : World) : Prop :=
  ∃ q A n c B m c2 cells cs', e = .returned (.tuple #[.pointer (some ⟨q, 0, none⟩), .slice A n c, .slice B m c2, .int .i64 0]) ∧ DAt w' base p cs' d' ∧ DStep w base p cs w' cs' ∧ VB w' q p v.f v.g (v.r.length : Nat) 0 ∧ (w.heap.size ≤ q ∧ ¬ Ft p cs' q) ∧
    Got (fun j => w.heap.size ≤ j ∧ ¬ Ft p cs' j ∧ j ≠ q) w' w.heap.size A n c v.s B m c2 cells v.r
theorem RetOp.got {w : World} {base p : Nat} {cs : Nat → Sl} {d' : D} {v : Vt} {s : Prop} {e : Ending} {w' : World} (h : RetOp w base p cs ⟨d', 0, v⟩ s e w') : RetG w base p cs d' v e w' := by
  rcases h with ⟨h, _⟩ | ⟨_, q, A, n, c, B, m, c2, cells, cs', h1, h2, h3, h4, h5, h6, _⟩
  · exact absurd rfl h
  · exact ⟨q, A, n, c, B, m, c2, cells, cs', h1, h2, h3, h4, h5, h6⟩
/-- Open answered a new vault: its snapshot is memory of its own -/
def RetGN (w : World) (base p : Nat) (cs : Nat → Sl) (d' : D) (s : List Int) (e : Ending) (w' : World) : Prop :=
  ∃ q A n c B m c2 cs', e = .returned (.tuple #[.pointer (some ⟨q, 0, none⟩), .slice A n c, .slice B m c2, .int .i64 0]) ∧ DAt w' base p cs' d' ∧ DStep w base p cs w' cs' ∧ VB w' q p 0 1 0 0 ∧ (w.heap.size ≤ q ∧ ¬ Ft p cs' q) ∧
    OwB w' w.heap.size A n c s ∧ (∀ j, (Value.slice A n c).ownBlock = some j → w.heap.size ≤ j ∧ ¬ Ft p cs' j ∧ j ≠ q)
theorem RetOp.new {w : World} {base p : Nat} {cs : Nat → Sl} {d' : D} {s : List Int} {pr : Prop} {e : Ending} {w' : World} (h : RetOp w base p cs ⟨d', 0, ⟨0, 1, s, []⟩⟩ pr e w') (hp : pr) : RetGN w base p cs d' s e w' := by
  rcases h with ⟨h, _⟩ | ⟨_, q, A, n, c, B, m, c2, cells, cs', h1, h2, h3, h4, h5, _, h6⟩
  · exact absurd rfl h
  · exact ⟨q, A, n, c, B, m, c2, cs', h1, h2, h3, h4, h5, (h6 hp).1, (h6 hp).2⟩
theorem Calls.toG {w : World} {base p : Nat} {cs : Nat → Sl} {r : Opn} {d' : D} {v : Vt} {s : Prop} {f : Nat} {args : Array Value} (h : Calls Tryd.prog f args w (RetOp w base p cs r s)) (hr : r = ⟨d', 0, v⟩) : Calls Tryd.prog f args w (RetG w base p cs d' v) := by
  subst hr
  exact h.mono fun _ _ h => RetOp.got h
/-- Open of a clean disk -/
theorem open_clean {w : World} {base p : Nat} {cs : Nat → Sl} {d : D} {f : Nat} {g : Int} {s : List Int} {rs : List (List Int)} {N : Nat} (h : DAt w base p cs d) (hc : Neat d f g s rs) (hN : 0 ≤ d.n ∧ d.n ≤ N) (hk : -9223372036854775808 ≤ d.k ∧ d.k ≤ 9223372036854775807) (hNN : N + 4 ≤ 4611686018427387904) (hrs : rs.length ≤ 5864062014803) (hfl : rs.flatten.length ≤ 1099511627776)
    (A : Option Addr) (n c : Nat) (s' : List Int) (hsn : ∀ (w' : World) (cs' : Nat → Sl), DStep w base p cs w' cs' → RdB w' A n s') (hs' : 8 + s'.length ≤ 1048576) (ht : Table w) :
    ∃ d', Neat d' f g s rs ∧ d'.n = d.n + 1 ∧ d'.k = d.k ∧ openR d s' = ⟨d', 0, ⟨f, g, s, rs⟩⟩ ∧ Calls Tryd.prog 11 #[.pointer (some ⟨p, 0, none⟩), .slice A n c] w (RetG w base p cs d' ⟨f, g, s, rs⟩) := by
  obtain ⟨d', h1, h2, h3, h4⟩ := hc.openR hs'
  have hs := hc.hs
  have hsz := fencs_size g s rs
  exact ⟨d', h2, h3, h4, h1, Calls.toG (open_on h (hc.ok hN hk) A n c s' hsn hs' (by omega) hNN hc.live.off (Nat.le_trans (hc.count 0 (by omega)) (by omega)) (Nat.le_trans (hc.count 1 (by omega)) (by omega)) ht) h1⟩
/-- Open of a new disk -/
theorem open_fresh {w : World} {base p : Nat} {cs : Nat → Sl} (h : DAt w base p cs (diskp.load [] [])) (A : Option Addr) (n c : Nat) (s' : List Int) (hsn : ∀ (w' : World) (cs' : Nat → Sl), DStep w base p cs w' cs' → RdB w' A n s') (hs' : 8 + s'.length ≤ 1048576) (ht : Table w) :
    ∃ d', Neat d' 0 1 s' [] ∧ (0 ≤ d'.n ∧ d'.n ≤ 4) ∧ (-9223372036854775808 ≤ d'.k ∧ d'.k ≤ 9223372036854775807) ∧ openR (diskp.load [] []) s' = ⟨d', 0, ⟨0, 1, s', []⟩⟩ ∧ Calls Tryd.prog 11 #[.pointer (some ⟨p, 0, none⟩), .slice A n c] w (RetG w base p cs d' ⟨0, 1, s', []⟩) := by
  have hby := (hsn w cs (DStep.refl _ _ _ _)).2
  obtain ⟨d', h1, h2⟩ := fresh_open hs' hby
  have hok : Ok (diskp.load [] []) 0 0 := Ok.load [] []
  have h4 := Ok.openR hok s'
  rw [h1] at h4
  have hc : ∀ f, f < 2 → (P (fileB (diskp.load [] []) f)).length ≤ 5864062014804 := fun f hf => by
    have e : fileB (diskp.load [] []) f = [] := by
      match f, hf with
      | 0, _ => rfl
      | 1, _ => rfl
    rw [e, P_nil]
    simp
  exact ⟨d', h2, ⟨h4.n.1, by have := h4.n.2; omega⟩, h4.k, h1, Calls.toG (open_on h hok A n c s' hsn hs' (by omega) (by omega) rfl (hc 0 (by omega)) (hc 1 (by omega)) ht) h1⟩
theorem load_pick : (lookF (fileB (diskp.load [] []) (vaultp.pick (diskp.load [] [])))).1 = 0 := by
  have e : ∀ f, f < 2 → fileB (diskp.load [] []) f = [] := fun f hf => by
    match f, hf with
    | 0, _ => rfl
    | 1, _ => rfl
  have hp : vaultp.pick (diskp.load [] []) < 2 := by unfold vaultp.pick; split <;> omega
  rw [e _ hp, lookF_nil]
/-- Open of a new disk: the snapshot that is answered is new memory -/
theorem open_freshN {w : World} {base p : Nat} {cs : Nat → Sl} (h : DAt w base p cs (diskp.load [] [])) (A : Option Addr) (n c : Nat) (s' : List Int) (hsn : ∀ (w' : World) (cs' : Nat → Sl), DStep w base p cs w' cs' → RdB w' A n s') (hs' : 8 + s'.length ≤ 1048576) (ht : Table w) :
    ∃ d', Neat d' 0 1 s' [] ∧ (0 ≤ d'.n ∧ d'.n ≤ 4) ∧ (-9223372036854775808 ≤ d'.k ∧ d'.k ≤ 9223372036854775807) ∧ Calls Tryd.prog 11 #[.pointer (some ⟨p, 0, none⟩), .slice A n c] w (RetGN w base p cs d' s') := by
  have hby := (hsn w cs (DStep.refl _ _ _ _)).2
  obtain ⟨d', h1, h2⟩ := fresh_open hs' hby
  have hok : Ok (diskp.load [] []) 0 0 := Ok.load [] []
  have h4 := Ok.openR hok s'
  rw [h1] at h4
  have hc : ∀ f, f < 2 → (P (fileB (diskp.load [] []) f)).length ≤ 5864062014804 := fun f hf => by
    have e : fileB (diskp.load [] []) f = [] := by
      match f, hf with
      | 0, _ => rfl
      | 1, _ => rfl
    rw [e, P_nil]
    simp
  have hO := open_on h hok A n c s' hsn hs' (by omega) (by omega) rfl (hc 0 (by omega)) (hc 1 (by omega)) ht
  rw [h1] at hO
  exact ⟨d', h2, ⟨h4.n.1, by have := h4.n.2; omega⟩, h4.k, hO.mono fun _ _ h => RetOp.new h load_pick⟩
/-- Open of any disk of bytes while the power stays -/
theorem open_live {w : World} {base p : Nat} {cs : Nat → Sl} {d : D} {S N : Nat} (h : DAt w base p cs d) (hl : Live d) (hb : ∀ i, i < 4 → By (d.b i)) (hok : Ok d S N) (hS : S ≤ 4194304) (hN : N ≤ 4194304) (A : Option Addr) (n c : Nat) (s' : List Int) (hsn : ∀ (w' : World) (cs' : Nat → Sl), DStep w base p cs w' cs' → RdB w' A n s') (hs' : 8 + s'.length ≤ 1048576) (ht : Table w) :
    ∃ d' v, Neat d' v.f v.g v.s v.r ∧ Ok d' (S + 1048584) (N + 4) ∧ openR d s' = ⟨d', 0, v⟩ ∧ Calls Tryd.prog 11 #[.pointer (some ⟨p, 0, none⟩), .slice A n c] w (RetG w base p cs d' v) := by
  have hby := (hsn w cs (DStep.refl _ _ _ _)).2
  obtain ⟨d', v, h1, h2, _⟩ := any_open hl hb hs' hby
  have h4 := Ok.openR hok s'
  rw [h1] at h4
  have hc : ∀ f, f < 2 → (P (fileB d f)).length ≤ 5864062014804 := fun f hf => by
    have e1 := P_len _ (fileB d f) (Nat.le_refl _)
    have e2 : (fileB d f).length ≤ S := by
      unfold fileB
      rw [List.length_append]
      match f, hf with
      | 0, _ => exact hok.s.1
      | 1, _ => exact hok.s.2
    omega
  exact ⟨d', v, h2, h4, h1, Calls.toG (open_on h hok A n c s' hsn hs' (by omega) (by omega) hl.off (hc 0 (by omega)) (hc 1 (by omega)) ht) h1⟩
end Go.Proofs.YtfinaikgikifcaaDoor.vaultk
/- The laws' wakes. -/
namespace Go.Proofs.YtfinaikgikifcaaDoor.vaultk
open Go.RowKit Go.Shelf Go.Proofs.YtfinaikgikifcaaDoorW.PrintWords Go.Proofs.YtfinaikgikifcaaDoor.base Go.Proofs.YtfinaikgikifcaaDoor.mem Go.Proofs.YtfinaikgikifcaaDoor.keep Go.Proofs.YtfinaikgikifcaaDoor.crcp Go.Proofs.YtfinaikgikifcaaDoor.crcw Go.Proofs.YtfinaikgikifcaaDoor.samew Go.Proofs.YtfinaikgikifcaaDoor.framep Go.Proofs.YtfinaikgikifcaaDoor.framew Go.Proofs.YtfinaikgikifcaaDoor.frameit Go.Proofs.YtfinaikgikifcaaDoor.framem Go.Proofs.YtfinaikgikifcaaDoor.framel Go.Proofs.YtfinaikgikifcaaDoor.framea Go.Proofs.YtfinaikgikifcaaDoor.framer Go.Proofs.YtfinaikgikifcaaDoor.framen Go.Proofs.YtfinaikgikifcaaDoor.framek Go.Proofs.YtfinaikgikifcaaDoor.diskp Go.Proofs.YtfinaikgikifcaaDoor.diskr Go.Proofs.YtfinaikgikifcaaDoor.diskw Go.Proofs.YtfinaikgikifcaaDoor.vaultp Go.Proofs.YtfinaikgikifcaaDoor.vaultw Go.Proofs.YtfinaikgikifcaaDoor.vaultl Go.Proofs.YtfinaikgikifcaaDoor.vaulta Go.Proofs.YtfinaikgikifcaaDoor.vaulto

set_option maxHeartbeats 2000000 in
set_option maxRecDepth 100000 in
theorem wakes_any (w : World) (ht : Table w) : Calls Tryd.prog 8 #[] w fun e w' => e = .returned (.bool true) ∧ Below w.heap.size w w' := by
  have HT := Lib.hid ht
  have L1 : Hid (By [115]) := Lib.hid (By_of _ (by decide))
  have L2 : Hid (By [97]) := Lib.hid (By_of _ (by decide))
  clear ht
  have kc := fun (w : World) (C : Array Value) (n c : Nat) => Lib.run_convert_bytes_const (P := Tryd.prog) w 22 5 C n c Tryd.underlying22 Tryd.underlying5
  go_enter Tryd.func8, Tryd.ntmps8
  go_wp2_with fail
  refine (new_any w).mono ?_
  rintro e w1 ⟨p, cs, rfl, hd1, hb1⟩
  have HD1 := Lib.hid hd1
  have HB1 := Lib.hid hb1
  have hs1 := hb1.size
  clear hd1 hb1
  go_wp2_with fail
  have BB := below_alloc (Below.refl w1.heap.size w1) (.cells #[.int .u8 115] 5 (1, 2))
  have HD2 := Lib.hid (HD1.out.below BB)
  have HB2 := Lib.hid (HB1.out.trans (BB.mono hs1))
  have HL2 := Lib.hid (litB w1 (1, 2) [115] (Nat.le_of_ble_eq_true rfl) L1.out)
  have HNF : Hid (¬ Ft p cs w1.heap.size) := Lib.hid fun h => absurd (HD1.out.ft h).2 (Nat.lt_irrefl _)
  have hz2 : (w1.alloc (.cells #[.int .u8 115] 5 (1, 2))).heap.size = w1.heap.size + 1 := by simp
  obtain ⟨d3, hc3, hn3, hk3, ho3, HO⟩ := open_fresh (s' := [115]) HD2.out (some ⟨w1.heap.size, 0, none⟩) 1 1 (fun w' cs' st => RdB.kp HL2.out (fun _ => ⟨_, rfl, HNF.out, by show _ < (w1.alloc _).heap.size; rw [World.size_alloc]; omega⟩) st.keep) (by decide) (HT.out.below HB2.out)
  have HC3 := Lib.hid hc3
  have HO3 := Lib.hid HO
  clear HO ho3 hc3
  refine HO3.out.mono ?_
  rintro e w3 ⟨q, A3, n3, c3, B3, m3, e3, cells3, cs3, rfl, h3, s3, hv3, ⟨hq3, hnq3⟩, hg3⟩
  have HD3 := Lib.hid h3
  have HV3 : Hid (VB w3 q p 0 1 0 0) := Lib.hid hv3
  have HNQ3 := Lib.hid hnq3
  have hB23 := s3.bel
  have HB3 := Lib.hid (HB2.out.trans s3.bel)
  have hr3 := hg3.rd
  have hn1 : n3 = 1 := hr3.len.symm
  subst hn1
  have hm3 : m3 = 0 := by
    have h1 := OwV.len hg3.rows
    have h2 := hg3.each.len
    simp only [List.length_nil] at h2
    omega
  subst hm3
  have hs3 := HB3.out.size
  have str3 : (convert 22 9 (.slice A3 1 c3)).run Tryd.prog w3 = .ok (.string ⟨#[115]⟩) w3 := str hr3 0 c3
  have B4 := below_alloc (Below.refl w3.heap.size w3) (.cells #[.int .u8 97] 5 (1, 2))
  have HD4 := Lib.hid (HD3.out.below B4)
  have HV4 := Lib.hid (HV3.out.below B4)
  have HB4 := Lib.hid (HB3.out.trans (B4.mono hs3))
  have HL4 := Lib.hid (litB w3 (1, 2) [97] (Nat.le_of_ble_eq_true rfl) L2.out)
  clear h3 s3 hv3 hnq3 hg3 hr3 hB23 HO3 B4 BB
  have hqb : w.heap.size ≤ q := by omega
  obtain ⟨d5, ha5, hc5, hn5⟩ := HC3.out.app (ys := [97]) (by decide) 0
  have HA := Lib.hid (vaulta.append_any (v := ⟨0, 1, 0, 0⟩) HD4.out (HC3.out.ok hn3 hk3) HV4.out hqb HNQ3.out (by decide) (some ⟨w3.heap.size, 0, none⟩) 1 1 [97] HL4.out (by decide) (by decide) (by decide) (HT.out.below HB4.out))
  rw [show vappR d3 ⟨0, 1, 0, 0⟩ [97] = (d5, ⟨0, 1, 1, 0⟩, 0) from ha5] at HA
  have HC5 := Lib.hid hc5
  have hok5 := Ok.vapp (HC3.out.ok hn3 hk3) ⟨0, 1, 0, 0⟩ [97]
  rw [show vappR d3 ⟨0, 1, 0, 0⟩ [97] = (d5, ⟨0, 1, 1, 0⟩, 0) from ha5] at hok5
  have HOK5 := Lib.hid hok5
  clear ha5 hc5 hok5
  go_wp2_with fail
  refine HA.out.mono ?_
  rintro e w5 ⟨rfl, cs5, h5, s5, hv5, hnq5⟩
  have HB5 := Lib.hid (HB4.out.trans s5.bel)
  obtain ⟨d6, hc6, hn6, hk6, ho6, HO⟩ := open_clean (s' := []) h5 HC5.out HOK5.out.n HOK5.out.k (by decide) (by decide) (by decide) none 0 0 (fun _ _ _ => nilB _) (by decide) (HT.out.below HB5.out)
  have HO6 := Lib.hid HO
  clear HO str3 h5 s5 hv5 hnq5 ho6 hn6 hk6
  go_wp2_with fail
  refine HO6.out.mono ?_
  rintro e w6 ⟨q6, A6, n6, c6, B6, m6, e6, cells6, cs6, rfl, h6, s6, _, _, hg6⟩
  have HB6 := Lib.hid (HB5.out.trans s6.bel)
  have hr6 := hg6.rd
  have hn1 : n6 = 1 := hr6.len.symm
  subst hn1
  have hm6 : m6 = 1 := by
    have h1 := OwV.len hg6.rows
    have h2 := hg6.each.len
    simp only [List.length_cons, List.length_nil, List.nil_append] at h2
    omega
  subst hm6
  obtain ⟨g6, hB6⟩ := OwV.form hg6.rows (by omega)
  subst hB6
  obtain ⟨a7, m7, c7, he7, ho7⟩ := hg6.each.at_ 0 (by decide)
  have hc7 := (OwV.at_ hg6.rows 0 he7).1
  have hr7 : RdB w6 a7 m7 [97] := ho7.rd
  have hm7 : m7 = 1 := hr7.len.symm
  subst hm7
  have str6 : (convert 22 9 (.slice A6 1 c6)).run Tryd.prog w6 = .ok (.string ⟨#[115]⟩) w6 := str hr6 0 c6
  have str7 : (convert 22 9 (.slice a7 1 c7)).run Tryd.prog w6 = .ok (.string ⟨#[97]⟩) w6 := str hr7 0 c7
  clear h6 s6 hg6 hr6 hr7 ho7 he7
  go_wp2
  go_ret
  exact ⟨rfl, HB6.out⟩
end Go.Proofs.YtfinaikgikifcaaDoor.vaultk
/- The walk of the law VaultKeeps. -/
namespace Go.Proofs.YtfinaikgikifcaaDoor.vaultk2
open Go.RowKit Go.Shelf Go.Proofs.YtfinaikgikifcaaDoorW.PrintWords Go.Proofs.YtfinaikgikifcaaDoor.base Go.Proofs.YtfinaikgikifcaaDoor.mem Go.Proofs.YtfinaikgikifcaaDoor.keep Go.Proofs.YtfinaikgikifcaaDoor.crcp Go.Proofs.YtfinaikgikifcaaDoor.crcw Go.Proofs.YtfinaikgikifcaaDoor.samew Go.Proofs.YtfinaikgikifcaaDoor.framep Go.Proofs.YtfinaikgikifcaaDoor.framew Go.Proofs.YtfinaikgikifcaaDoor.frameit Go.Proofs.YtfinaikgikifcaaDoor.framem Go.Proofs.YtfinaikgikifcaaDoor.framel Go.Proofs.YtfinaikgikifcaaDoor.framea Go.Proofs.YtfinaikgikifcaaDoor.framer Go.Proofs.YtfinaikgikifcaaDoor.framen Go.Proofs.YtfinaikgikifcaaDoor.framek Go.Proofs.YtfinaikgikifcaaDoor.diskp Go.Proofs.YtfinaikgikifcaaDoor.diskr Go.Proofs.YtfinaikgikifcaaDoor.diskw Go.Proofs.YtfinaikgikifcaaDoor.vaultp Go.Proofs.YtfinaikgikifcaaDoor.vaultw Go.Proofs.YtfinaikgikifcaaDoor.vaultl Go.Proofs.YtfinaikgikifcaaDoor.vaulta Go.Proofs.YtfinaikgikifcaaDoor.vaulto Go.Proofs.YtfinaikgikifcaaDoor.vaultk

theorem flat_mem {xss : List (List Int)} {p : List Int} (h : p ∈ xss) : p.length ≤ xss.flatten.length := by
  obtain ⟨s, t, e⟩ := List.append_of_mem h
  rw [e, List.flatten_append, List.flatten_cons, List.length_append, List.length_append]
  omega
theorem getD_mem {xss : List (List Int)} {k : Nat} (h : k < xss.length) : xss.getD k [] ∈ xss := by
  rw [List.getD_eq_getElem?_getD, List.getElem?_eq_getElem h]
  exact List.getElem_mem h
theorem take_flat (xss : List (List Int)) (k : Nat) : (xss.take k).flatten.length ≤ xss.flatten.length := by
  have h : (xss.take k ++ xss.drop k).flatten.length = xss.flatten.length := by rw [List.take_append_drop]
  rw [List.flatten_append, List.length_append] at h
  omega
theorem take_snocF (xss : List (List Int)) (k : Nat) (h : k < xss.length) : (xss.take (k + 1)).flatten.length = (xss.take k).flatten.length + (xss.getD k []).length := by
  rw [take_snoc2 xss k h, List.flatten_append, List.length_append]
  simp
/-- the blocks of the disk, the vault, and a slice -/
def Fo (p : Nat) (cs : Nat → Sl) (q : Nat) (A : Option Addr) (n c : Nat) (g : Nat) : Prop := Ft p cs g ∨ g = q ∨ (Value.slice A n c).ownBlock = some g
/-- the disk, the vault, and the law's own copy of the snapshot -/
structure Kv (w W : World) (p q : Nat) (cs : Nat → Sl) (d : D) (k : Nat) (snap : List Int) (recs : List (List Int)) (A : Option Addr) (n c : Nat) (zs : List Int) : Prop where
  disk : DAt W w.heap.size p cs d
  neat : Neat d 0 1 snap recs
  dn : 0 ≤ d.n ∧ d.n ≤ ((4 + 2 * k : Nat) : Int)
  dk : -9223372036854775808 ≤ d.k ∧ d.k ≤ 9223372036854775807
  box : VB W q p 0 1 (recs.length : Nat) 0
  hq : w.heap.size ≤ q
  nq : ¬ Ft p cs q
  own : OwB W w.heap.size A n c zs
  no : ∀ j, (Value.slice A n c).ownBlock = some j → ¬ Ft p cs j ∧ j ≠ q
  bel : Below w.heap.size w W
section
variable {w W W1 : World} {p q k n c : Nat} {cs : Nat → Sl} {d : D} {snap zs : List Int} {recs : List (List Int)} {A : Option Addr}
theorem Kv.lt (h : Kv w W p q cs d k snap recs A n c zs) {g : Nat} (hg : Fo p cs q A n c g) : g < W.heap.size := by
  rcases hg with h1 | h1 | h1
  · exact (h.disk.ft h1).2
  · rw [h1]; exact h.box.lt
  · exact (OwB.blk h.own g h1).2
theorem Kv.blocks (h : Kv w W p q cs d k snap recs A n c zs) (hb : ∀ g, Fo p cs q A n c g → W1.heap[g]? = W.heap[g]?) (hl : Below w.heap.size W W1) : Kv w W1 p q cs d k snap recs A n c zs := by
  refine ⟨h.disk.blocks fun g hg => hb g (.inl hg), h.neat, h.dn, h.dk, h.box.block (hb q (.inr (.inl rfl))), h.hq, h.nq, ?_, h.no, h.bel.trans hl⟩
  refine ⟨⟨h.own.1.1, ?_⟩, h.own.2⟩
  rcases h.own.1.2 with hv | ⟨g, cap, cur, hv, h1, h2, h3⟩
  · exact .inl hv
  · exact .inr ⟨g, cap, cur, hv, h1, by rw [hb g (.inr (.inr (by rw [hv]; rfl)))]; exact h2, h3⟩
theorem Kv.below (h : Kv w W p q cs d k snap recs A n c zs) (hb : Below W.heap.size W W1) : Kv w W1 p q cs d k snap recs A n c zs :=
  h.blocks (fun g hg => hb.block g (h.lt hg)) (hb.mono h.bel.size)
end
set_option maxHeartbeats 4000000 in
set_option maxRecDepth 100000 in
theorem keepsLaw (A : Option Addr) (n c : Nat) (xss : List (List Int)) (A' : Option Addr) (n' c' : Nat) (ms : List Int) (w : World) (hr : RdBB w A n xss) (hc : n ≤ c) (hn : n * 24 ≤ 140737488351232) (hrz : ∀ x ∈ xss, x.length ≤ 140737488351232) (hm : RdB w A' n' ms) (hc' : n' ≤ c') (hn' : n' * 1 ≤ 140737488351232) (ht : Table w) :
    Calls Tryd.prog 4 #[.slice A n c, .slice A' n' c'] w fun e w' => e = .returned (.bool true) ∧ Below w.heap.size w w' := by
  have HR := Lib.hid hr
  have HM := Lib.hid hm
  have HT := Lib.hid ht
  have HL := Lib.hid hr.1
  have HRZ := Lib.hid hrz
  have lm := hm.len
  have hnn : n ≤ 5864062014634 := by omega
  clear hr hm ht hrz hn
  go_enter Tryd.func4, Tryd.ntmps4
  go_wp2_with fail
  refine (wakes_any _ HT.out).mono ?_
  rintro e w1 ⟨rfl, hb⟩
  have B1 := Lib.hid hb
  have hs1 := hb.size
  clear hb
  have HR1 := Lib.hid (HR.out.below B1.out)
  go_wp2
  go_loopw [5, 33] (fun s i wr => ∃ k : Nat, k ≤ n ∧ i = .int .i64 k ∧ s = .int .i64 ((n' + (xss.take k).flatten.length : Nat) : Int) ∧ (0 < k → n' + (xss.take k).flatten.length ≤ 1048560) ∧ w1 = wr) (fun _ i _ => n - (intOf i).toNat)
  case atStart => exact ⟨0, by omega, rfl, by simp, fun h => absurd h (by omega), rfl⟩
  case round =>
    obtain ⟨k, hk, rfl, rfl, hsm, rfl⟩ := hrel
    by_cases hlt : k < n
    · obtain ⟨ad, rfl, a2, m2, c2, hcell, hc2, hrow⟩ := HR1.out.at_ k hlt
      have hlr := hrow.len
      have HSF := Lib.hid (take_snocF xss k (by rw [HL.out]; exact hlt))
      have hz := HRZ.out _ (getD_mem (xss := xss) (k := k) (by rw [HL.out]; exact hlt))
      rw [hlr] at HSF hz
      have hbnd : n' + (xss.take k).flatten.length ≤ 140737488351232 := by
        rcases Nat.eq_zero_or_pos k with h0 | h0
        · subst h0
          rw [List.take_zero]
          simp
          omega
        · have := hsm h0
          omega
      clear hrow hlr hsm
      generalize hT : (xss.take k).flatten.length = T at HSF hbnd ⊢
      clear hT
      by_cases hbig : 1048560 < n' + T + m2
      · go_wp2
        go_ret
        exact ⟨rfl, B1.out⟩
      · go_wp2
        go_roundw
        case rel => exact ⟨k + 1, by omega, by go_num, by rw [HSF.out]; go_num, fun _ => by rw [HSF.out]; omega, by first | rfl | trivial⟩
        case measure => simp [intOf]; omega
    · obtain rfl : k = n := by omega
      have htk : xss.take k = xss := List.take_of_length_le (by rw [HL.out]; omega)
      rw [htk] at hsm ⊢
      have hbnd : n' + xss.flatten.length ≤ 140737488351232 := by
        rcases Nat.eq_zero_or_pos k with h0 | h0
        · have hx : xss = [] := List.eq_nil_of_length_eq_zero (by rw [HL.out]; exact h0)
          rw [hx]
          simp
          omega
        · have := hsm h0
          omega
      clear hsm htk
      generalize hF : xss.flatten.length = F at *
      have HFF := Lib.hid hF
      clear hF
      by_cases hbig : 1048560 < n' + F
      · go_wp2
        go_ret
        exact ⟨rfl, B1.out⟩
      have HTOT : Hid (n' + F ≤ 1048560) := Lib.hid (by omega)
      have hn6 : n' ≤ 1048560 := by omega
      go_upto_region 13 with fail
      go_wp2_with fail
      refine (new_any w1).mono ?_
      rintro e w2 ⟨p, cs, rfl, h2, hb2⟩
      have B2 := Lib.hid (B1.out.trans (hb2.mono hs1))
      have H2 := Lib.hid (h2.less hs1)
      have hs2 := B2.out.size
      have HM2 := Lib.hid (HM.out.below B2.out)
      have L7 : Hid (By [71]) := Lib.hid (By_of _ (by decide))
      clear h2 hb2 HR1
      go_wp2_with (first | (at_builtin; refine app (w0 := w2) (base := w2.heap.size) rfl (.tmp 47) (.tmp 48) rfl rfl rfl (OwB.lit0 w2 _ (Nat.le_refl _)) (HM2.out.below (below_alloc (Below.refl _ _) _)) ((Below.refl w2.heap.size w2).alloc (Nat.le_refl _) _) ?s3 ?l3 ?_; (case s3 => simp); (case l3 => omega); intro A3 n3 c3 w3 ho hb; have hl := ho.len; rw [List.nil_append] at ho; rw [List.nil_append, lm] at hl; subst hl; have HO3 := Lib.hid ho; have HB3 := Lib.hid hb; have hs3 := hb.size; clear ho hb) | (at_builtin; refine app (w0 := w2) (base := w2.heap.size) rfl (.tmp 49) (.tmp 50) rfl rfl rfl (HO3.out.alloc _) (litB w3 (0, 0) [71] (Nat.le_of_ble_eq_true rfl) L7.out) (HB3.out.alloc hs3 _) ?s4 ?l4 ?_; (case s4 => simp; omega); (case l4 => simp; omega); intro A4 n4 c4 w4 ho hb; have HO4 := Lib.hid ho; have HB4 := Lib.hid hb; have hl4 := ho.len; have hs4 := hb.size; have hc4 := ho.cap; rw [List.length_append, lm] at hl4; simp only [List.length_cons, List.length_nil] at hl4; have hn4a : n' + 1 ≤ n4 := (by omega); have hn4b : n4 ≤ n' + 1 := (by omega); clear hl4; have hm4 : n' ≤ c4 := (by omega); have hm4i : (n' : Int) ≤ (c4 : Int) := (by omega); clear ho hb) | fail)
      have hmn : n' ≤ n4 := by omega
      have HX4 : Hid (∀ W B, OwB W B A4 n4 c4 (ms ++ [71]) → RdB W A4 n' ms) := Lib.hid fun W B h => by have := h.rd.take n' hmn; rwa [List.take_left' lm] at this
      have B4 := Lib.hid (B2.out.trans (HB4.out.mono hs2))
      have H4 := Lib.hid (H2.out.below HB4.out)
      have HBL4 := Lib.hid (OwB.blk HO4.out)
      have HNF4 : Hid (∀ j, (Value.slice A4 n4 c4).ownBlock = some j → ¬ Ft p cs j) := Lib.hid fun j hj h => by
        have h1 := (H2.out.ft h).2
        have h3 := (HBL4.out j hj).1
        omega
      obtain ⟨d5, hN5, hn5, hk5, HO⟩ := open_freshN H4.out A4 n' c4 ms (fun w' cs' st => HX4.out w' _ (own_kp HO4.out st.keep HNF4.out)) (by omega) (HT.out.below B4.out)
      have HOP := Lib.hid HO
      have HN5 := Lib.hid hN5
      have HDN := Lib.hid hn5
      have HDK := Lib.hid hk5
      clear HO hN5 hn5 hk5
      refine HOP.out.mono ?_
      rintro e w5 ⟨q, A5, n5, c5, B5, m5, e5, cs5, rfl, h5, s5, hv5, ⟨hq5, hnq5⟩, ho5, hp5⟩
      have hln5 := ho5.len
      rw [lm] at hln5
      subst hln5
      have hs45 := s5.keep.1
      have HKV5 : Hid (Kv w w5 p q cs5 d5 0 ms [] A4 n4 c4 (ms ++ [71])) := Lib.hid ⟨h5, HN5.out, by have := HDN.out; omega, HDK.out, hv5, by omega, hnq5, (own_kp HO4.out s5.keep HNF4.out).less (by omega), fun j hj => ⟨fun h => by
        rcases s5.foot j h with h1 | h1
        · exact HNF4.out j hj h1
        · have := (HBL4.out j hj).2; omega, by have := (HBL4.out j hj).2; omega⟩, B4.out.trans s5.bel⟩
      have HO5 := Lib.hid ho5
      have HP5 := Lib.hid hp5
      have HNA : Hid (∀ g, (Value.slice A5 n' c5).ownBlock = some g → ¬ Fo p cs5 q A4 n4 c4 g) := Lib.hid fun g hg h => by
        obtain ⟨g1, g2, g3⟩ := hp5 g hg
        rcases h with h | h | h
        · exact g2 h
        · exact g3 h
        · have := (HBL4.out g h).2; omega
      have HSM := Lib.hid (same_any A5 n' c5 ms A' n' c' ms w5 ho5.rd (HM.out.below HKV5.out.bel))
      rw [eqL_self] at HSM
      clear h5 s5 hv5 hnq5 ho5 hp5 HOP HN5 HDN HDK H4 HO4 HB4 HO3 HB3 H2
      go_wp2_with fail
      refine HSM.out.mono ?_
      rintro e w6 ⟨rfl, hd6⟩
      have HKV6 := Lib.hid (HKV5.out.below hd6.below)
      have HO6 := Lib.hid (HO5.out.below hd6.below)
      clear hd6
      go_wp2
      go_loopw [14, 73] (fun _ i wr => ∃ (j : Nat) (zs : List Int), j ≤ n' ∧ i = .int .i64 j ∧ Aside0 (OwB wr w4.heap.size A5 n' c5 zs) ∧ Aside0 (Kv w wr p q cs5 d5 0 ms [] A4 n4 c4 (ms ++ [71]))) (fun _ i _ => n' - (intOf i).toNat)
      case atStart => exact ⟨0, _, by omega, rfl, ⟨HO6.out⟩, ⟨HKV6.out⟩⟩
      case round =>
        rename World => w7
        obtain ⟨j, zs, hj, rfl, HO7, HKV7⟩ := hrel
        by_cases hlt2 : j < n'
        · obtain ⟨g5, rfl, hg5, _⟩ := HO7.out.form (by omega)
          obtain ⟨hcell2, hfr⟩ := HO7.out.at_ j hlt2
          generalize zs.getD j 0 = z at hcell2
          have hnf := HNA.out g5 rfl
          have st := Aside0.mk (HO7.out.store j 1 ⟨by decide, by decide⟩)
          have S1 := Aside0.mk (HKV7.out.blocks (W1 := w7.setCell ⟨g5, j, none⟩ (.int .u8 1)) (fun g hg => Below.heap_setCell _ _ _ _ (fun e => hnf (by have e : g = g5 := e; rw [← e]; exact hg))) ((Below.refl _ _).setCell (p := ⟨g5, j, none⟩) (show w.heap.size ≤ g5 by omega) _))
          go_wp2
          go_roundw
          case rel => exact ⟨j + 1, _, by omega, by go_num, st, S1⟩
          case measure => simp [intOf]; omega
        · clear HO7 HSM HO6 HKV6 HNA HP5 HO5 HKV5
          go_wp2
          go_loopw [82] (fun i wr => ∃ (j : Nat) (cs : Nat → Sl) (d : D), j ≤ k ∧ i = .int .i64 j ∧ Aside0 (Kv w wr p q cs d j ms (xss.take j) A4 n4 c4 (ms ++ [71]))) (fun i _ => k - (intOf i).toNat)
          case atStart => exact ⟨0, cs5, d5, by omega, rfl, ⟨HKV7.out⟩⟩
          case round =>
            rename World => w8
            obtain ⟨i, cs8, d8, hi, rfl, HKV8⟩ := hrel
            have BW := Lib.hid HKV8.out.bel
            have hsw := BW.out.size
            by_cases hlt3 : i < k
            · obtain ⟨ad, rfl, a2, m2, c2, hcell0, hc2, hrow⟩ := HR.out.at_ i hlt3
              have hcell := pw_cell_below BW.out hcell0
              clear hcell0
              have hlr := hrow.len
              have hmem := getD_mem (xss := xss) (k := i) (by rw [HL.out]; exact hlt3)
              have hpl := flat_mem hmem
              rw [hlr, HFF.out] at hpl
              have HS := Lib.hid (take_snoc2 xss i (by rw [HL.out]; exact hlt3))
              generalize xss.getD i [] = ys at hrow hlr HS
              have HP := Lib.hid hrow
              have HTF := Lib.hid (take_flat xss i)
              have htl : (xss.take i).length ≤ i := by rw [List.length_take]; omega
              have L8 : Hid (By [72]) := Lib.hid (By_of _ (by decide))
              have hk3 := HKV8.out.bel.size
              clear hrow hmem
              go_wp2_with (first | (at_builtin; refine app (w0 := w8) (base := w8.heap.size) rfl (.tmp 86) (.tmp 87) rfl rfl rfl (OwB.lit0 w8 _ (Nat.le_refl _)) (HP.out.below (BW.out.alloc hsw _)) ((Below.refl w8.heap.size w8).alloc (Nat.le_refl _) _) ?s9 ?l9 ?_; (case s9 => simp); (case l9 => omega); intro A9 n9 c9 w9 ho hb; have hl := ho.len; rw [List.nil_append] at ho; rw [List.nil_append, hlr] at hl; subst hl; have HO9 := Lib.hid ho; have HB9 := Lib.hid hb; have hs9 := hb.size; clear ho hb) | (at_builtin; refine app (w0 := w8) (base := w8.heap.size) rfl (.tmp 88) (.tmp 89) rfl rfl rfl (HO9.out.alloc _) (litB w9 (0, 0) [72] (Nat.le_of_ble_eq_true rfl) L8.out) (HB9.out.alloc hs9 _) ?s10 ?l10 ?_; (case s10 => simp; omega); (case l10 => simp; omega); intro A10 n10 c10 w10 ho hb; have HO10 := Lib.hid ho; have HB10 := Lib.hid hb; have hl10 := ho.len; have hs10 := hb.size; have hc10 := ho.cap; rw [List.length_append, hlr] at hl10; simp only [List.length_cons, List.length_nil] at hl10; have hn10a : m2 + 1 ≤ n10 := (by omega); have hn10b : n10 ≤ m2 + 1 := (by omega); clear hl10; have hm10 : m2 ≤ c10 := (by omega); have hm10i : (m2 : Int) ≤ (c10 : Int) := (by omega); clear ho hb) | fail)
              have hm10n : m2 ≤ n10 := by omega
              have HX10 : Hid (∀ W B, OwB W B A10 n10 c10 (ys ++ [72]) → RdB W A10 m2 ys) := Lib.hid fun W B h => by have := h.rd.take m2 hm10n; rwa [List.take_left' hlr] at this
              have HKV10 := Lib.hid (HKV8.out.below HB10.out)
              have HBX := Lib.hid (OwB.blk HO10.out)
              have HFL8 := Lib.hid (fun g (h : Fo p cs8 q A4 n4 c4 g) => HKV8.out.lt h)
              have HNX : Hid (∀ g, (Value.slice A10 n10 c10).ownBlock = some g → ¬ Fo p cs8 q A4 n4 c4 g) := Lib.hid fun g hg h => by
                have h1 := HFL8.out g h
                have h2 := (HBX.out g hg).1
                omega
              have hsz := fencs_size 1 ms (xss.take i)
              have hok := HKV10.out.neat.ok HKV10.out.dn HKV10.out.dk
              have hTF := HTF.out
              rw [HFF.out] at hTF
              have HAP := Lib.hid (vaulta.append_any (v := ⟨0, 1, ((xss.take i).length : Nat), 0⟩) HKV10.out.disk hok HKV10.out.box HKV10.out.hq HKV10.out.nq (by show 0 ≤ (((xss.take i).length : Nat) : Int) ∧ (((xss.take i).length : Nat) : Int) ≤ 4611686018427387904; omega) A10 m2 c10 ys (HX10.out _ _ HO10.out) hm10 (by omega) (by omega) (HT.out.below HKV10.out.bel))
              obtain ⟨d11, ha11, hN11, hdn11⟩ := HKV10.out.neat.app (ys := ys) (by omega) ((xss.take i).length : Nat)
              have hok11 := Ok.vapp hok ⟨0, 1, ((xss.take i).length : Nat), 0⟩ ys
              rw [show vappR d8 ⟨0, 1, ((xss.take i).length : Nat), 0⟩ ys = (d11, ⟨0, 1, ((xss.take i).length : Nat) + 1, 0⟩, 0) from ha11] at HAP hok11
              have HN11 := Lib.hid hN11
              have HDN11 : Hid (0 ≤ d11.n ∧ d11.n ≤ ((4 + 2 * (i + 1) : Nat) : Int)) := Lib.hid (by have := HKV10.out.dn; rw [hdn11]; omega)
              have HDK11 := Lib.hid hok11.k
              clear ha11 hN11 hdn11 hok hok11 hsz hTF
              refine HAP.out.mono ?_
              rintro e w11 ⟨rfl, cs11, h11, s11, hv11, hnq11⟩
              have hft : ∀ g, g < w10.heap.size → Ft p cs11 g → Ft p cs8 g := fun g hg h => by
                rcases s11.foot g h with h1 | h1
                · exact h1
                · omega
              have HKV11 : Hid (Kv w w11 p q cs11 d11 (i + 1) ms (xss.take (i + 1)) A4 n4 c4 (ms ++ [71])) := Lib.hid ⟨h11, by rw [HS.out]; exact HN11.out, HDN11.out, HDK11.out, by
                rw [HS.out, List.length_append]
                exact hv11, HKV10.out.hq, hnq11, own_kp HKV10.out.own s11.keep HKV10.out.no, fun j hj => ⟨fun h => (HKV10.out.no j hj).1 (hft j (HKV10.out.lt (.inr (.inr hj))) h), (HKV10.out.no j hj).2⟩, HKV10.out.bel.trans s11.bel⟩
              have HO11 := Lib.hid (own_kp HO10.out s11.keep fun j hj => ⟨fun h => HNX.out j hj (.inl h), fun h => HNX.out j hj (.inr (.inl h))⟩)
              have HNX11 : Hid (∀ g, (Value.slice A10 n10 c10).ownBlock = some g → ¬ Fo p cs11 q A4 n4 c4 g) := Lib.hid fun g hg h => by
                rcases h with h | h | h
                · exact HNX.out g hg (.inl (hft g (HBX.out g hg).2 h))
                · exact HNX.out g hg (.inr (.inl h))
                · exact HNX.out g hg (.inr (.inr h))
              have HSM := Lib.hid (same_any A10 m2 c10 ys a2 m2 c2 ys w11 (HX10.out _ _ HO11.out) (HP.out.below HKV11.out.bel))
              rw [eqL_self] at HSM
              clear h11 s11 hv11 hnq11 hft
              go_wp2_with fail
              refine HSM.out.mono ?_
              rintro e w12 ⟨rfl, hd12⟩
              have hb12 := hd12.below
              have HKV12 := Lib.hid (HKV11.out.below hb12)
              have HO12 := Lib.hid (HO11.out.below hb12)
              obtain ⟨g10, rfl, _, _⟩ := HO12.out.form (by omega)
              have c72 := (HO12.out.at_ m2 (by omega)).1
              have h72 : (ys ++ [72]).getD m2 0 = 72 := by simp [List.getD_eq_getElem?_getD, ← hlr]
              rw [h72] at c72
              clear h72
              have hmm : m2 < n10 := by omega
              have hmmi : (m2 : Int) < (n10 : Int) := by omega
              have hnf := HNX11.out g10 rfl
              have hg10 := (HBX.out g10 rfl).1
              have HNF := Lib.hid hnf
              clear hd12 hb12 hnf
              go_wp2
              clear c72
              go_loopw [18, 117] (fun _ li wr => ∃ (j : Nat) (zs : List Int), j ≤ n10 ∧ li = .int .i64 j ∧ Aside0 (OwB wr w8.heap.size (some ⟨g10, 0, none⟩) n10 c10 zs) ∧ Aside0 (Kv w wr p q cs11 d11 (i + 1) ms (xss.take (i + 1)) A4 n4 c4 (ms ++ [71]))) (fun _ li _ => n10 - (intOf li).toNat)
              case atStart => exact ⟨0, _, by omega, rfl, ⟨HO12.out⟩, ⟨HKV12.out⟩⟩
              case round =>
                rename World => w13
                obtain ⟨j, zs, hj, rfl, HO13, HKV13⟩ := hrel
                by_cases hlt4 : j < n10
                · obtain ⟨hcell2, hfr⟩ := HO13.out.at_ j hlt4
                  generalize zs.getD j 0 = z at hcell2
                  have st := Aside0.mk (HO13.out.store j 2 ⟨by decide, by decide⟩)
                  have S1 := Aside0.mk (HKV13.out.blocks (W1 := w13.setCell ⟨g10, j, none⟩ (.int .u8 2)) (fun g hg => Below.heap_setCell _ _ _ _ (fun e => HNF.out (by have e : g = g10 := e; rw [← e]; exact hg))) ((Below.refl _ _).setCell (p := ⟨g10, j, none⟩) (show w.heap.size ≤ g10 by omega) _))
                  go_wp2
                  go_roundw
                  case rel => exact ⟨j + 1, _, by omega, by go_num, st, S1⟩
                  case measure => simp [intOf]; omega
                · go_wp2
                  go_roundw
                  case rel => exact ⟨i + 1, cs11, d11, by omega, by go_num, ⟨HKV13.out⟩⟩
                  case measure => simp [intOf]; omega
            · obtain rfl : i = k := by omega
              have htk : xss.take i = xss := List.take_of_length_le (by rw [HL.out]; omega)
              rw [htk] at HKV8
              clear htk
              have HO8 := Lib.hid HKV8.out.own
              have HXM : Hid (RdB w8 A4 n' ms) := Lib.hid (HX4.out _ _ HO8.out)
              have HSM := Lib.hid (same_any A4 n' c4 ms A' n' c' ms w8 HXM.out (HM.out.below BW.out))
              rw [eqL_self] at HSM
              go_wp2_with fail
              refine HSM.out.mono ?_
              rintro e w9 ⟨rfl, hd9⟩
              have HKV9 := Lib.hid (HKV8.out.below hd9.below)
              clear hd9
              obtain ⟨g4, rfl, _, _⟩ := HKV9.out.own.form (by omega)
              have c71 := (HKV9.out.own.at_ n' (by omega)).1
              have h71 : (ms ++ [71]).getD n' 0 = 71 := by simp [List.getD_eq_getElem?_getD, ← lm]
              rw [h71] at c71
              clear h71
              have hmm : n' < n4 := by omega
              have hmmi : (n' : Int) < (n4 : Int) := by omega
              have hno := HKV9.out.no g4 rfl
              have hgw := (OwB.blk HKV9.out.own g4 rfl).1
              have HNO := Lib.hid hno
              have HD9 := Lib.hid HKV9.out.disk
              have HNE := Lib.hid HKV9.out.neat
              have HDN := Lib.hid HKV9.out.dn
              have HDK := Lib.hid HKV9.out.dk
              have HOW := Lib.hid HKV9.out.own
              have HB9 := Lib.hid HKV9.out.bel
              clear hno HKV8 HKV9 HSM HXM HO8 HKV7
              go_wp2
              clear c71
              go_loopw [19, 142] (fun _ li wr => ∃ (j : Nat) (zs : List Int), j ≤ n4 ∧ li = .int .i64 j ∧ Aside0 (OwB wr w.heap.size (some ⟨g4, 0, none⟩) n4 c4 zs) ∧ Aside0 (DAt wr w.heap.size p cs8 d8) ∧ Aside0 (Below w.heap.size w wr)) (fun _ li _ => n4 - (intOf li).toNat)
              case atStart => exact ⟨0, _, by omega, rfl, ⟨HOW.out⟩, ⟨HD9.out⟩, ⟨HB9.out⟩⟩
              case round =>
                rename World => w10
                obtain ⟨j, zs, hj, rfl, HO10, HD10, HB10⟩ := hrel
                by_cases hlt4 : j < n4
                · obtain ⟨hcell2, hfr⟩ := HO10.out.at_ j hlt4
                  generalize zs.getD j 0 = z at hcell2
                  have st := Aside0.mk (HO10.out.store j 3 ⟨by decide, by decide⟩)
                  have S1 := Aside0.mk (HD10.out.blocks (w1 := w10.setCell ⟨g4, j, none⟩ (.int .u8 3)) (fun g hg => Below.heap_setCell _ _ _ _ (fun e => HNO.out.1 (by have e : g = g4 := e; rw [← e]; exact hg))))
                  have S2 := Aside0.mk (HB10.out.setCell (p := ⟨g4, j, none⟩) hgw (.int .u8 3))
                  go_wp2
                  go_roundw
                  case rel => exact ⟨j + 1, _, by omega, by go_num, st, S1, S2⟩
                  case measure => simp [intOf]; omega
                · have HDD := Lib.hid HD10.out
                  have HBB := Lib.hid HB10.out
                  have hs10 := HB10.out.size
                  clear HO10 HD10 HB10 HOW HD9 HB9
                  have hml := hnn
                  obtain ⟨d11, hN11, hn11, hk11, ho11, HO⟩ := open_clean (s' := []) HDD.out HNE.out HDN.out HDK.out (by omega) (by rw [HL.out]; omega) (by rw [HFF.out]; omega) none 0 0 (fun _ _ _ => nilB _) (by simp) (HT.out.below HBB.out)
                  have HOP := Lib.hid HO
                  have HN11 := Lib.hid hN11
                  have HDN11 : Hid (0 ≤ d11.n ∧ d11.n ≤ ((5 + 2 * i : Nat) : Int)) := Lib.hid (by have := HDN.out; omega)
                  have HDK11 : Hid (-9223372036854775808 ≤ d11.k ∧ d11.k ≤ 9223372036854775807) := Lib.hid (by rw [hk11]; exact HDK.out)
                  clear HO hN11 hn11 hk11 ho11
                  go_wp2_with fail
                  refine HOP.out.mono ?_
                  rintro e w11 ⟨q11, A11, n11, c11, D11, m11, e11, cells11, cs11, rfl, h11, s11, hv11, ⟨hq11, hnq11⟩, hg11⟩
                  have B11 := Lib.hid (HBB.out.trans s11.bel)
                  have HS11 := Lib.hid (same_any A11 n11 c11 ms A' n' c' ms w11 hg11.rd (HM.out.below B11.out))
                  rw [eqL_self] at HS11
                  have hm11 : m11 = xss.length := by rw [← hg11.each.len]; exact (OwV.len hg11.rows).symm
                  have hm11a : m11 ≤ i := by rw [hm11, HL.out]; exact Nat.le_refl _
                  have hm11b : i ≤ m11 := by rw [hm11, HL.out]; exact Nat.le_refl _
                  have HAL := Lib.hid (fun W (hb : Below w11.heap.size w11 W) => alike_any D11 m11 e11 xss A i c xss W ((hg11.rds (by omega)).below hb) (HR.out.below (B11.out.trans (hb.mono B11.out.size))))
                  rw [eqLL_self] at HAL
                  have HV11 := Lib.hid hg11.rows
                  have HR11 := Lib.hid hg11.each
                  have HH11 := Lib.hid hg11.head
                  have HI11 := Lib.hid hg11.lies
                  have H11 := Lib.hid h11
                  have hs1011 := s11.keep.1
                  clear hm11 h11 s11 hv11 hnq11 hg11 HOP HDN HDK HNE HDD
                  go_wp2_with (first | (go_at_call 13; refine HS11.out.mono ?_; rintro e w' ⟨rfl, ⟨q12, rfl⟩⟩; have B12 := Lib.hid (pw_below_drewN (Below.refl w11.heap.size w11) q12)) | (go_at_call 14; refine (HAL.out _ B12.out).mono ?_; rintro e w' ⟨rfl, ⟨q13, rfl⟩⟩; have B13 := Lib.hid (pw_below_drewN (Below.refl w11.heap.size w11) (q12 + q13))))
                  have HV13 := Lib.hid (OwV.below HV11.out B13.out)
                  have HR13 := Lib.hid (HR11.out.map fun _ _ _ _ h => h.below B13.out)
                  have HD13 := Lib.hid (H11.out.below B13.out)
                  have BB13 := Lib.hid (B11.out.trans (B13.out.mono B11.out.size))
                  clear HV11 HR11 H11 HS11 HAL B12 B13
                  generalize w11.drewN (q12 + q13) = w13 at HV13 HR13 HD13 BB13 ⊢
                  have HAP : Hid (Apart cells11) := Lib.hid HR13.out.apart
                  go_loopw [22, 172] (fun _ i wr => ∃ (q : Nat) (cells : List Value), q ≤ m11 ∧ i = .int .i64 q ∧ Aside0 (OwV wr w10.heap.size D11 m11 e11 cells) ∧ Aside0 (RK wr w10.heap.size q cells cells11 xss) ∧ Aside0 (Kp (Ft p cs11) w13 wr) ∧ Aside0 (Below w.heap.size w wr)) (fun _ i _ => m11 - (intOf i).toNat)
                  case atStart => exact ⟨0, _, by omega, rfl, ⟨HV13.out⟩, ⟨RK.of HR13.out⟩, ⟨Kp.refl _⟩, ⟨BB13.out⟩⟩
                  case round =>
                    rename World => w14
                    obtain ⟨q, cells, hq, rfl, HV14, HR14, HK14, HB14⟩ := hrel
                    have hz14 := HB14.out.size
                    by_cases hlt6 : q < m11
                    · obtain ⟨a, m, cc, he, ho⟩ := HR14.out.own q (Nat.le_refl _) (by rw [HL.out]; omega)
                      have hec : cells[q]? = some (.slice a m cc) := (HR14.out.same q (Nat.le_refl _)).trans he
                      have hpl := flat_mem (getD_mem (xss := xss) (k := q) (by rw [HL.out]; omega))
                      rw [ho.len, HFF.out] at hpl
                      generalize xss.getD q [] = ys at ho
                      obtain ⟨g3, rfl⟩ := OwV.form HV14.out (by omega)
                      have HE := Lib.hid he
                      have HEC := Lib.hid hec
                      have hd := (OwV.at_ HV14.out q hec).1
                      have HO14 := Lib.hid ho
                      have HN14 := Lib.hid HR14.out.next
                      have hgv := HH11.out g3 rfl
                      have HRB := Lib.hid (fun g (h : (Value.slice a m cc).ownBlock = some g) => HI11.out q g a m cc HE.out h)
                      have hgv1 := hgv.1
                      have HGV := Lib.hid hgv
                      clear he hec ho hgv
                      go_wp2
                      clear hd
                      go_loopw [23, 180] (fun _ li wr => ∃ (j : Nat) (zs : List Int), j ≤ m ∧ li = .int .i64 j ∧ Aside0 (OwB wr w10.heap.size a m cc zs) ∧ Aside0 (OwV wr w10.heap.size (some ⟨g3, 0, none⟩) m11 e11 cells) ∧ Aside0 (RK wr w10.heap.size (q + 1) cells cells11 xss) ∧ Aside0 (Kp (Ft p cs11) w13 wr) ∧ Aside0 (Below w.heap.size w wr)) (fun _ li _ => m - (intOf li).toNat)
                      case atStart => exact ⟨0, _, by omega, rfl, ⟨HO14.out⟩, ⟨HV14.out⟩, ⟨HN14.out⟩, ⟨HK14.out⟩, ⟨HB14.out⟩⟩
                      case round =>
                        rename World => w15
                        obtain ⟨j, zs, hj, rfl, HO15, HV15, HR15, HK15, HB15⟩ := hrel
                        have hd := (OwV.at_ HV15.out q HEC.out).1
                        by_cases hlt7 : j < m
                        · obtain ⟨g1, rfl, hg1, _⟩ := HO15.out.form (by omega)
                          have hgb := HRB.out g1 rfl
                          have HGB := Lib.hid hgb
                          obtain ⟨hcell, hfr⟩ := HO15.out.at_ j hlt7
                          generalize zs.getD j 0 = z at hcell
                          have HST : Hid (∀ v : Int, 0 ≤ v ∧ v ≤ 255 → Aside0 (OwB (w15.setCell ⟨g1, j, none⟩ (.int .u8 v)) w10.heap.size (some ⟨g1, 0, none⟩) m cc (zs.set j v)) ∧ Aside0 (OwV (w15.setCell ⟨g1, j, none⟩ (.int .u8 v)) w10.heap.size (some ⟨g3, 0, none⟩) m11 e11 cells) ∧ Aside0 (RK (w15.setCell ⟨g1, j, none⟩ (.int .u8 v)) w10.heap.size (q + 1) cells cells11 xss) ∧ Aside0 (Kp (Ft p cs11) w13 (w15.setCell ⟨g1, j, none⟩ (.int .u8 v))) ∧ Aside0 (Below w.heap.size w (w15.setCell ⟨g1, j, none⟩ (.int .u8 v)))) := Lib.hid fun v hv =>
                            ⟨⟨HO15.out.store j v hv⟩, ⟨OwV.keptB HV15.out HO15.out (grownBy_set _ g1 j _) (fun g e => by cases e; rfl)⟩, ⟨HR15.out.set HAP.out HE.out j _⟩, ⟨HK15.out.set (g := g1) HGB.out.2.1 j _⟩, ⟨HB15.out.setCell (p := ⟨g1, j, none⟩) (show w.heap.size ≤ g1 by omega) _⟩⟩
                          clear hgb
                          go_wp2
                          go_roundw
                          case rel =>
                            refine ⟨j + 1, _, by omega, by go_num, HST.out _ ?_⟩
                            omega
                          case measure => simp [intOf]; omega
                        · have hz15 := HB15.out.size
                          have L2 : Hid (By [4, 5]) := Lib.hid (By_of _ (by decide))
                          have hz10 : w10.heap.size ≤ w15.heap.size := Nat.le_trans (OwV.blk HV15.out g3 rfl).1 (Nat.le_of_lt (OwV.blk HV15.out g3 rfl).2)
                          go_wp2_with (at_builtin; (refine appH (w0 := w15) (base := w10.heap.size) rfl (.tmp 197) (.tmp 198) rfl rfl rfl (HO15.out.alloc _) (litB w15 (0, 0) [4, 5] (Nat.le_of_ble_eq_true rfl) L2.out) ((Below.refl _ _).alloc hz10 _) ?s9 ?l9 ?_; (case s9 => simp; omega); (case l9 => simp; omega); intro A16 n16 c16 w16 ho hb hg hown; have HV16 := Lib.hid (OwV.keptB (own_alloc HV15.out _) (HO15.out.alloc _) hg (fun g e => e)); obtain ⟨hd16, hf16⟩ := OwV.at_ HV16.out q HEC.out; have HR16 := Lib.hid ((HR15.out.below (below_alloc (Below.refl _ _) _)).grown HAP.out HE.out hg (fun g e => e)); have HK16 := Lib.hid ((HK15.out.alloc _).grown hg (fun j e => fun h => (HRB.out j e).2.1 h.1)); have HB16 := Lib.hid (HB15.out.trans (hb.mono hs10)); clear ho hb hg hown))
                          go_wp2
                          go_roundw
                          case rel =>
                            exact ⟨q + 1, cells.set q (.slice A16 n16 c16), by omega, by go_num, ⟨OwV.store HV16.out q _⟩, ⟨(HR16.out.put _).head HV16.out q _⟩, ⟨HK16.out.set (g := g3) HGV.out.2.1 q _⟩, ⟨HB16.out.setCell (p := ⟨g3, q, none⟩) (show w.heap.size ≤ g3 by omega) _⟩⟩
                          case measure => simp [intOf]; omega
                    · have HD14 := Lib.hid (HD13.out.kept HK14.out fun g h => h)
                      have BB14 := Lib.hid HB14.out
                      obtain ⟨d15, hN15, _, _, _, HO⟩ := open_clean (s' := []) HD14.out HN11.out HDN11.out HDK11.out (by omega) (by rw [HL.out]; omega) (by rw [HFF.out]; omega) none 0 0 (fun _ _ _ => nilB _) (by simp) (HT.out.below BB14.out)
                      have HOP := Lib.hid HO
                      clear HO hN15 HV14 HR14 HK14 HB14
                      go_wp2_with fail
                      refine HOP.out.mono ?_
                      rintro e w15 ⟨q15, A15, n15, c15, D15, m15, e15, cells15, cs15, rfl, h15, s15, hv15, ⟨hq15, hnq15⟩, hg15⟩
                      have B15 := Lib.hid (BB14.out.trans s15.bel)
                      have HS15 := Lib.hid (same_any A15 n15 c15 ms A' n' c' ms w15 hg15.rd (HM.out.below B15.out))
                      rw [eqL_self] at HS15
                      have hm15 : m15 ≤ i := by
                        have h1 := OwV.len hg15.rows
                        have h2 : cells15.length = xss.length := hg15.each.len
                        rw [HL.out] at h2
                        omega
                      have HAL := Lib.hid (fun W (hb : Below w15.heap.size w15 W) => alike_any D15 m15 e15 xss A i c xss W ((hg15.rds (by omega)).below hb) (HR.out.below (B15.out.trans (hb.mono B15.out.size))))
                      rw [eqLL_self] at HAL
                      clear h15 s15 hv15 hnq15 hg15 hm15 HOP
                      go_wp2_with (first | (go_at_call 13; refine HS15.out.mono ?_; rintro e w' ⟨rfl, ⟨q16, rfl⟩⟩; have B16 := Lib.hid (pw_below_drewN (Below.refl w15.heap.size w15) q16)) | (go_at_call 14; refine (HAL.out _ B16.out).mono ?_; rintro e w' ⟨rfl, ⟨q17, rfl⟩⟩; have B17 := Lib.hid (pw_below_drewN (Below.refl w15.heap.size w15) (q16 + q17))) | (go_at_call 18; refine (append_nil _ _).mono ?_; rintro e w' ⟨rfl, rfl⟩) | (go_at_call 19; refine (checkpoint_nil _ _).mono ?_; rintro e w' ⟨rfl, rfl⟩) | (go_at_call 16; refine (count_nil _).mono ?_; rintro e w' ⟨rfl, rfl⟩) | (go_at_call 15; refine (generation_nil _).mono ?_; rintro e w' ⟨rfl, rfl⟩))
                      go_ret
                      exact ⟨rfl, B15.out.trans (B17.out.mono B15.out.size)⟩
end Go.Proofs.YtfinaikgikifcaaDoor.vaultk2
/- How arguments of the laws are opened: slices of bytes, slices of whole numbers, slices of slices of bytes. -/
namespace Go.Proofs.YtfinaikgikifcaaDoor.shapes
open Go.ChangeShapes Go.WideShapes Go.ChangeAt Go.RowKit Go.Proofs.YtfinaikgikifcaaDoorW.PrintWords Go.Proofs.YtfinaikgikifcaaDoor.base

section
variable {H : Type} {enc : TypeId × Value → H} {P : Program} {W : World} {base : Nat}

theorem places_lt {t : TypeId} {v : Value} {d : DataW H} {ps : List MemPlace} (h : DataW.Trod enc P W 0 (fun _ => true) true t v d ps) : ∀ x ∈ ps, x.block < W.heap.size := by
  obtain ⟨m, hm⟩ := h
  exact DataW.trod_lt m _ _ _ hm

/-- a slice of whole numbers -/
theorem openInts {t e : TypeId} {k : IntKind} {v : Value} {d : DataW H} {ps : List MemPlace} (ht : P.underlying t = some (.slice e)) (he : P.underlying e = some (.int k)) (hc : P.cellsOf e = 1)
    (hv : Value.okWide P W .any base t v) (h : DataW.Trod enc P W 0 (fun _ => true) true t v d ps) :
    ∃ (A : Option Addr) (n c : Nat) (xs : List Int), v = .slice A n c ∧ n ≤ c ∧ c ≤ 9223372036854775807 ∧ ReadsInt W k A n xs ∧ (∀ x ∈ xs, (Lit.int k x).wf = true) ∧ (d = .nil ∧ n = 0 ∨ ∃ l r : List (DataW H), d = .slice l r ∧ l.length = n) := by
  obtain ⟨A, n, c, rfl⟩ := okWide_slice ht hv
  obtain ⟨fuel, hf⟩ := h
  rcases open_ints ht he hc hf with ⟨hcs, hx⟩ | ⟨x, l, c', zs, hcs, _, hl, hm, hz, hx, hcell, hwz⟩
  · simp [Value.cells] at hcs
    obtain ⟨rfl, rfl, rfl⟩ := hcs
    exact ⟨none, 0, 0, [], rfl, Nat.le_refl _, by omega, ⟨rfl, by omega, fun h => absurd h (by omega)⟩, by simp, .inl ⟨(Prod.mk.inj hx).1, rfl⟩⟩
  · simp [Value.cells] at hcs
    obtain ⟨rfl, rfl, rfl⟩ := hcs
    simp at hz
    unfold maxLen at hm
    refine ⟨some x, n, c, zs.take n, rfl, hl, hm, ⟨by rw [List.length_take]; omega, by omega, fun h0 => ⟨x, rfl, fun j hj => ?_⟩⟩, fun y hy => hwz y (List.mem_of_mem_take hy), .inr ⟨_, _, (Prod.mk.inj hx).1, by simp [lits]; omega⟩⟩
    rw [hcell j (by omega)]
    simp [List.getD_eq_getElem?_getD, List.getElem?_take, hj]

theorem openBytes {t e : TypeId} {v : Value} {d : DataW H} {ps : List MemPlace} (ht : P.underlying t = some (.slice e)) (he : P.underlying e = some (.int .u8)) (hc : P.cellsOf e = 1)
    (hv : Value.okWide P W .any base t v) (h : DataW.Trod enc P W 0 (fun _ => true) true t v d ps) :
    ∃ (A : Option Addr) (n c : Nat) (xs : List Int), v = .slice A n c ∧ n ≤ c ∧ c ≤ 9223372036854775807 ∧ RdB W A n xs ∧ (d = .nil ∧ n = 0 ∨ ∃ l r : List (DataW H), d = .slice l r ∧ l.length = n) := by
  obtain ⟨A, n, c, xs, h1, h2, h3, h4, h5, h6⟩ := openInts ht he hc hv h
  exact ⟨A, n, c, xs, h1, h2, h3, ⟨h4, By_of _ fun x hx => bounds_u8 (h5 x hx)⟩, h6⟩

/-- a slice of slices of bytes -/
theorem openRows {t e q : TypeId} {v : Value} {d : DataW H} {ps : List MemPlace} (ht : P.underlying t = some (.slice e)) (he : P.underlying e = some (.slice q)) (hq : P.underlying q = some (.int .u8)) (ce : P.cellsOf e = 1) (cq : P.cellsOf q = 1)
    (hv : Value.okWide P W .any base t v) (h : DataW.Trod enc P W 0 (fun _ => true) true t v d ps) :
    ∃ (A : Option Addr) (n c : Nat) (xss : List (List Int)), v = .slice A n c ∧ n ≤ c ∧ c ≤ 9223372036854775807 ∧ RdBB W A n xss ∧
      (d = .nil ∧ n = 0 ∨ ∃ l r : List (DataW H), d = .slice l r ∧ l.length = n ∧ ∀ j, j < n → l[j]? = some .nil ∧ (xss.getD j []).length = 0 ∨ ∃ l' r', l[j]? = some (.slice l' r') ∧ (xss.getD j []).length = l'.length) := by
  obtain ⟨A, n, c, rfl⟩ := okWide_slice ht hv
  obtain ⟨fuel, hf⟩ := h
  rcases Deep.open_int_rows ht he hq ce cq hf with ⟨hcs, hx⟩ | ⟨x, l, c', A', L, C, Z, hcs, _, hl, hm, hx, hcell⟩
  · simp [Value.cells] at hcs
    obtain ⟨rfl, rfl, rfl⟩ := hcs
    exact ⟨none, 0, 0, [], rfl, Nat.le_refl _, by omega, ⟨rfl, by omega, fun h => absurd h (by omega)⟩, .inl ⟨(Prod.mk.inj hx).1, rfl⟩⟩
  · simp [Value.cells] at hcs
    obtain ⟨rfl, rfl, rfl⟩ := hcs
    unfold maxLen at hm
    have hg : ∀ j, j < n → ((List.range n).map fun r => (Z r).take (L r)).getD j [] = (Z j).take (L j) := by
      intro j hj
      simp [List.getD_eq_getElem?_getD, hj]
    refine ⟨some x, n, c, (List.range n).map fun r => (Z r).take (L r), rfl, hl, hm, ⟨by simp, by omega, fun h0 => ⟨x, rfl, fun j hj => ?_⟩⟩, .inr ⟨_, _, (Prod.mk.inj hx).1, by simp, fun j hj => ?_⟩⟩
    · obtain ⟨h1, h2, h3, h4, h5, h6, h7⟩ := hcell j (by omega)
      unfold maxLen at h3
      refine ⟨_, _, _, h1, h2, ?_⟩
      rw [hg j hj]
      refine ⟨⟨by rw [List.length_take]; omega, by omega, fun hp => ?_⟩, By_of _ fun y hy => bounds_u8 (h5 y (List.mem_of_mem_take hy))⟩
      cases ha : A' j with
      | none => have := h6 ha; omega
      | some a' =>
        refine ⟨a', rfl, fun i hi => ?_⟩
        rw [(h7 a' ha).2 i (by omega)]
        simp [List.getD_eq_getElem?_getD, List.getElem?_take, hi]
    · obtain ⟨h1, h2, h3, h4, h5, h6, h7⟩ := hcell j (by omega)
      rw [hg j hj]
      have hl' : ((List.range n).map fun r => Deep.intRow (H := H) .u8 (A' r) (L r) (Z r))[j]? = some (Deep.intRow .u8 (A' j) (L j) (Z j)) := by simp [hj]
      rw [hl']
      have hlen : ((Z j).take (L j)).length = L j := by rw [List.length_take]; omega
      rw [hlen]
      cases ha : A' j with
      | none => left; exact ⟨by simp [Deep.intRow], by have := h6 ha; omega⟩
      | some a' => right; exact ⟨_, _, by simp [Deep.intRow]; exact ⟨rfl, rfl⟩, by simp [lits]; omega⟩

/-- an array of four bytes, by value -/
theorem openBytes4 {t e : TypeId} {v : Value} {d : DataW H} {ps : List MemPlace} (ht : P.underlying t = some (.array 4 e)) (he : P.underlying e = some (.int .u8)) (hc : P.cellsOf e = 1) (hC : P.cellsOf t = 4)
    (hv : Value.okWide P W .any base t v) (h : DataW.Trod enc P W 0 (fun _ => true) true t v d ps) :
    ∃ m0 m1 m2 m3 : Int, v = .agg #[.int .u8 m0, .int .u8 m1, .int .u8 m2, .int .u8 m3] ∧ By [m0, m1, m2, m3] := by
  simp only [Value.okWide, ht] at hv
  obtain ⟨cs, rfl, hsz, _⟩ := hv
  obtain ⟨c0, c1, c2, c3, rfl⟩ := Joins.array4 (hsz.trans hC)
  obtain ⟨fuel, hf⟩ := h
  obtain ⟨xs, m, _, _, _, hl, hel⟩ := DataW.trod_array ht hf
  have one : ∀ (i : Nat) (hi : i < 4) (c : Value), [c0, c1, c2, c3][i]? = some c → ∃ n, c = .int .u8 n ∧ 0 ≤ n ∧ n ≤ 255 := by
    intro i hi c hci
    have h1 := hel i hi
    rw [hc, Nat.mul_one] at h1
    have h2 : (([c0, c1, c2, c3] : List Value).drop i).take 1 = [c] := by
      match i, hi, hci with
      | 0, _, hci => simp at hci; subst hci; rfl
      | 1, _, hci => simp at hci; subst hci; rfl
      | 2, _, hci => simp at hci; subst hci; rfl
      | 3, _, hci => simp at hci; subst hci; rfl
    have h3 : DataW.trod enc P W 0 (fun _ => true) true m e [c] = xs[i]? := by rw [← h2]; exact h1
    rw [List.getElem?_eq_getElem (by omega)] at h3
    obtain ⟨n, hn, _, hw⟩ := DataW.trod_int he h3
    simp at hn
    exact ⟨n, hn, bounds_u8 hw⟩
  obtain ⟨m0, rfl, h0⟩ := one 0 (by decide) c0 rfl
  obtain ⟨m1, rfl, h1⟩ := one 1 (by decide) c1 rfl
  obtain ⟨m2, rfl, h2⟩ := one 2 (by decide) c2 rfl
  obtain ⟨m3, rfl, h3⟩ := one 3 (by decide) c3 rfl
  refine ⟨m0, m1, m2, m3, rfl, By_of _ fun x hx => ?_⟩
  simp only [List.mem_cons, List.not_mem_nil, or_false] at hx
  rcases hx with rfl | rfl | rfl | rfl
  · exact h0
  · exact h1
  · exact h2
  · exact h3
end
end Go.Proofs.YtfinaikgikifcaaDoor.shapes
/- A slice of structs of three whole numbers and a slice of bytes: a script, opened. -/
namespace Go.Proofs.YtfinaikgikifcaaDoor.vops
open Go.ChangeShapes Go.WideShapes Go.ChangeAt Go.RowKit Go.Proofs.YtfinaikgikifcaaDoorW.PrintWords Go.Proofs.YtfinaikgikifcaaDoor.base Go.Proofs.YtfinaikgikifcaaDoor.mem

/-- a call of a script -/
structure O where
  kd : Int
  n : Int
  k : Int
  A : Option Addr
  m : Nat
  c : Nat
  ys : List Int
def nilO : O := ⟨0, 0, 0, none, 0, 0, []⟩
/-- its bounds -/
structure O.I (o : O) : Prop where
  kd : -9223372036854775808 ≤ o.kd ∧ o.kd ≤ 9223372036854775807
  n : -9223372036854775808 ≤ o.n ∧ o.n ≤ 9223372036854775807
  k : -9223372036854775808 ≤ o.k ∧ o.k ≤ 9223372036854775807
  c : o.m ≤ o.c
  z : o.m ≤ 140737488351232
/-- four cells behind a place -/
def At (w : World) (b p : Nat) (o : O) : Prop := w.cell? ⟨b, p, none⟩ = some (.int .i64 o.kd) ∧ w.cell? ⟨b, p + 1, none⟩ = some (.int .i64 o.n) ∧ w.cell? ⟨b, p + 2, none⟩ = some (.int .i64 o.k) ∧ w.cell? ⟨b, p + 3, none⟩ = some (.slice o.A o.m o.c)
theorem At.below {w w1 : World} {b p : Nat} {o : O} (h : At w b p o) (hb : Below w.heap.size w w1) : At w1 b p o :=
  ⟨pw_cell_below hb h.1, pw_cell_below hb h.2.1, pw_cell_below hb h.2.2.1, pw_cell_below hb h.2.2.2⟩
structure RdO (w : World) (A : Option Addr) (n : Nat) (os : List O) : Prop where
  len : os.length = n
  max : n ≤ 9223372036854775807
  at_ : 0 < n → ∃ b off, A = some ⟨b, off, none⟩ ∧ ∀ j, j < n → At w b (off + j * 4) (os.getD j nilO)
  rd : ∀ o ∈ os, RdB w o.A o.m o.ys
  ok : ∀ o ∈ os, o.I
theorem RdO.below {w w1 : World} {A : Option Addr} {n : Nat} {os : List O} (h : RdO w A n os) (hb : Below w.heap.size w w1) : RdO w1 A n os :=
  ⟨h.len, h.max, fun hn => by
    obtain ⟨b, off, e, hc⟩ := h.at_ hn
    exact ⟨b, off, e, fun j hj => (hc j hj).below hb⟩, fun o ho => (h.rd o ho).below hb, h.ok⟩
theorem take_snocO (os : List O) (k : Nat) (h : k < os.length) : os.take (k + 1) = os.take k ++ [os.getD k nilO] := by
  rw [List.take_add_one, List.getD_eq_getElem?_getD, List.getElem?_eq_getElem h]; rfl
theorem getD_memO (os : List O) (k : Nat) (h : k < os.length) : os.getD k nilO ∈ os := by
  rw [List.getD_eq_getElem?_getD, List.getElem?_eq_getElem h]; simp
def sumB (os : List O) : Nat := (os.map fun o => o.ys.length).sum
theorem sumB_snoc (os : List O) (o : O) : sumB (os ++ [o]) = sumB os + o.ys.length := by simp [sumB]
theorem sumB_take (os : List O) (k : Nat) : sumB (os.take k) ≤ sumB os := by
  induction os generalizing k with
  | nil => simp [sumB]
  | cons o os ih =>
    cases k with
    | zero => simp [sumB]
    | succ k => have := ih k; simp [sumB] at *; omega
theorem sumB_mem (os : List O) {o : O} (h : o ∈ os) : o.ys.length ≤ sumB os := by
  induction os with
  | nil => cases h
  | cons x os ih =>
    rcases List.mem_cons.1 h with rfl | h
    · simp [sumB]
    · have := ih h; simp [sumB] at *; omega
section
variable {H : Type} {enc : TypeId × Value → H} {P : Program} {W : World} {base : Nat}
theorem weights_all {l : List (DataW H)} {d : DataW H} {e : TypeId} (h : d ∈ l) {n : Nat} (hn : n ∈ d.weights P e) : n ∈ DataW.weightsAll P e l := by
  induction l with
  | nil => cases h
  | cons x l ih =>
    rw [DataW.weightsAll, List.mem_append]
    rcases List.mem_cons.1 h with rfl | h
    · exact .inl hn
    · exact .inr (ih h)
theorem openVOps {t e ti ts tb : TypeId} {f0 f1 f2 f3 : Field} {v : Value} {d : DataW H} {ps : List MemPlace} (ht : P.underlying t = some (.slice e)) (he : P.underlying e = some (.struct #[f0, f1, f2, f3])) (hi : P.underlying ti = some (.int .i64)) (hs : P.underlying ts = some (.slice tb)) (hb : P.underlying tb = some (.int .u8)) (ci : P.cellsOf ti = 1) (cs1 : P.cellsOf ts = 1) (cb : P.cellsOf tb = 1) (hC : P.cellsOf e = 4) (hB : P.bytesOf tb = 1)
    (hT : [f0, f1, f2, f3].map (fun f => (f.type, f.offset)) = [(ti, 0), (ti, 1), (ti, 2), (ts, 3)])
    (hv : Value.okWide P W .any base t v) (hz : ∀ n ∈ d.weights P t, n ≤ reachBytes) (h : DataW.Trod enc P W 0 (fun _ => true) true t v d ps) :
    ∃ (A : Option Addr) (n c : Nat) (os : List O), v = .slice A n c ∧ n ≤ c ∧ RdO W A n os := by
  obtain ⟨A, n, c, rfl⟩ := okWide_slice ht hv
  obtain ⟨fuel, hf⟩ := h
  have hT' := hT
  simp only [List.map_cons, List.map_nil, List.cons.injEq, Prod.mk.injEq, and_true] at hT
  obtain ⟨⟨t0, o0⟩, ⟨t1, o1⟩, ⟨t2, o2⟩, t3, o3⟩ := hT
  rcases Deep.open_slice ht hf with ⟨hcs, hx⟩ | ⟨a, l, cap, m, fu, D, Pl, hcs, _, hl, hm, hmm, hx0, hx⟩
  · simp [Value.cells] at hcs
    obtain ⟨rfl, rfl, rfl⟩ := hcs
    exact ⟨none, 0, 0, [], rfl, Nat.le_refl _, ⟨rfl, by omega, fun h => absurd h (by omega), by simp, by simp⟩⟩
  · simp [Value.cells] at hcs
    obtain ⟨rfl, rfl, rfl⟩ := hcs
    unfold maxLen at hm
    simp at hmm
    subst hmm
    have hwt : ∀ j, j < n → ∀ q ∈ (D j).weights P e, q ≤ reachBytes := fun j hj q hq => by
      refine hz q ?_
      rw [(Prod.mk.inj hx0).1]
      simp only [DataW.weights, ht]
      exact List.mem_cons_of_mem _ (List.mem_append_left _ (weights_all (List.mem_map.2 ⟨j, by simpa using hj, rfl⟩) hq))
    have one : ∀ j, j < n → ∃ o : O, (W.cell? (a.add (j * 4)) = some (.int .i64 o.kd) ∧ W.cell? (a.add (j * 4 + 1)) = some (.int .i64 o.n) ∧ W.cell? (a.add (j * 4 + 2)) = some (.int .i64 o.k) ∧ W.cell? (a.add (j * 4 + 3)) = some (.slice o.A o.m o.c)) ∧ RdB W o.A o.m o.ys ∧ o.I := by
      intro j hj
      obtain ⟨cs', h1, h2⟩ := hx j (by omega)
      rw [hC] at h1
      obtain ⟨_, hlen, hcell⟩ := World.cells?_some h1
      obtain ⟨xs, k, hk, hxy, _, hxl, hel⟩ := DataW.trod_struct he h2
      match xs, hxl, cs', hlen with
      | [y0, y1, y2, y3], _, [c0, c1, c2, c3], _ =>
        have hD : D j = .agg [y0.1, y1.1, y2.1, y3.1] := (Prod.mk.inj hxy).1
        have hw3 : ∀ q ∈ (y3.1).weights P ts, q ≤ reachBytes := fun q hq => by
          refine hwt j hj q ?_
          rw [hD]
          simp only [DataW.weights, he, List.map_cons, List.map_nil, DataW.weightsEach, t0, t1, t2, t3]
          simp [hq]
        have onei : ∀ (c : Value) (y : DataW H × List MemPlace), DataW.trod enc P W 0 (fun _ => true) true k ti [c] = some y → ∃ n, c = .int .i64 n ∧ -9223372036854775808 ≤ n ∧ n ≤ 9223372036854775807 := by
          intro c y h3
          obtain ⟨n, hn, _, hw⟩ := DataW.trod_int hi h3
          simp at hn
          exact ⟨n, hn, bounds_i64 hw⟩
        have ones : ∀ (c : Value) (y : DataW H × List MemPlace), (∀ q ∈ (y.1).weights P ts, q ≤ reachBytes) → DataW.trod enc P W 0 (fun _ => true) true k ts [c] = some y → ∃ (A : Option Addr) (m cc : Nat) (ys : List Int), c = .slice A m cc ∧ m ≤ cc ∧ RdB W A m ys ∧ m ≤ 140737488351232 := by
          intro c y hq h3
          rcases open_ints hs hb cb h3 with ⟨hcs, hx⟩ | ⟨x, l, c', zs, hcs, _, hl, hm, hz, hx, hcell, hwz⟩
          · simp at hcs
            subst hcs
            exact ⟨none, 0, 0, [], rfl, Nat.le_refl _, ⟨⟨rfl, by omega, fun h => absurd h (by omega)⟩, By_of _ (by simp)⟩, by omega⟩
          · simp at hcs
            subst hcs
            simp at hz
            unfold maxLen at hm
            refine ⟨some x, l, c', zs.take l, rfl, hl, ⟨⟨by rw [List.length_take]; omega, by omega, fun h0 => ⟨x, rfl, fun j hj => ?_⟩⟩, By_of _ fun y hy => bounds_u8 (hwz y (List.mem_of_mem_take hy))⟩, ?_⟩
            · rw [hcell j (by omega)]
              simp [List.getD_eq_getElem?_getD, List.getElem?_take, hj]
            · have := hq (((lits (H := H) .u8 (zs.take l)).length + (lits (H := H) .u8 (zs.drop l)).length) * P.bytesOf tb) (by
                rw [(Prod.mk.inj hx).1]
                simp only [DataW.weights, hs]
                exact List.mem_cons_self)
              rw [hB] at this
              have hr : reachBytes = 140737488351232 := rfl
              rw [hr] at this
              simp [lits] at this
              omega
        have g0 := hel 0 f0 rfl
        have g1 := hel 1 f1 rfl
        have g2 := hel 2 f2 rfl
        have g3 := hel 3 f3 rfl
        simp [t0, t1, t2, t3, o0, o1, o2, o3, ci, cs1] at g0 g1 g2 g3
        obtain ⟨n0, rfl, b0⟩ := onei _ _ g0
        obtain ⟨n1, rfl, b1⟩ := onei _ _ g1
        obtain ⟨n2, rfl, b2⟩ := onei _ _ g2
        obtain ⟨A3, m3, c3, ys3, rfl, b3, r3, z3⟩ := ones _ _ hw3 g3
        have e0 := hcell 0 (by omega)
        have e1 := hcell 1 (by omega)
        have e2 := hcell 2 (by omega)
        have e3 := hcell 3 (by omega)
        rw [Deep.add_add] at e0 e1 e2 e3
        exact ⟨⟨n0, n1, n2, A3, m3, c3, ys3⟩, ⟨by simpa using e0, by simpa using e1, by simpa using e2, by simpa using e3⟩, r3, ⟨b0, b1, b2, b3, z3⟩⟩
    haveI : Inhabited O := ⟨nilO⟩
    obtain ⟨q, hq⟩ := Deep.choose_lt one
    have hgd : ∀ j, j < n → ((List.range n).map q).getD j nilO = q j := fun j hj => by simp [List.getD_eq_getElem?_getD, hj]
    refine ⟨some a, n, m, (List.range n).map q, rfl, hl, ⟨by simp, by omega, fun h0 => ?_, fun o ho => ?_, fun o ho => ?_⟩⟩
    · have hs : a.spot = none := by
        have := World.cell?_spot (hq 0 h0).1.1
        simpa [Addr.add] using this
      obtain ⟨b, off, sp⟩ := a
      subst hs
      have ap : ∀ k, (⟨b, off, none⟩ : Addr).add k = ⟨b, off + k, none⟩ := fun k => by unfold Addr.add; split <;> simp_all
      refine ⟨b, off, rfl, fun j hj => ?_⟩
      rw [hgd j hj]
      obtain ⟨g0, g1, g2, g3⟩ := (hq j hj).1
      rw [ap] at g0 g1 g2 g3
      exact ⟨g0, by simpa [Nat.add_assoc] using g1, by simpa [Nat.add_assoc] using g2, by simpa [Nat.add_assoc] using g3⟩
    · simp at ho
      obtain ⟨j, hj, rfl⟩ := ho
      exact (hq j hj).2.1
    · simp at ho
      obtain ⟨j, hj, rfl⟩ := ho
      exact (hq j hj).2.2
end
end Go.Proofs.YtfinaikgikifcaaDoor.vops
/- How long the slices in a handed slice of slices are. -/
namespace Go.Proofs.YtfinaikgikifcaaDoor.rowsz
open Go.ChangeShapes Go.WideShapes Go.ChangeAt Go.RowKit

variable {H : Type} {P : Program}
theorem rowsZ {t e q : TypeId} {d : DataW H} {n : Nat} {xss : List (List Int)} (ht : P.underlying t = some (.slice e)) (he : P.underlying e = some (.slice q)) (hB : P.bytesOf e = 24) (hb : P.bytesOf q = 1) (hlen : xss.length = n)
    (hd : d = .nil ∧ n = 0 ∨ ∃ l r : List (DataW H), d = .slice l r ∧ l.length = n ∧ ∀ j, j < n → l[j]? = some .nil ∧ (xss.getD j []).length = 0 ∨ ∃ l' r', l[j]? = some (.slice l' r') ∧ (xss.getD j []).length = l'.length)
    (hz : ∀ w ∈ d.weights P t, w ≤ reachBytes) : n * 24 ≤ 140737488351232 ∧ ∀ x ∈ xss, x.length ≤ 140737488351232 := by
  have hr : reachBytes = 140737488351232 := rfl
  rcases hd with ⟨_, h0⟩ | ⟨l, r, hd, hl, hj⟩
  · subst h0
    exact ⟨by omega, fun x hx => by rw [List.eq_nil_of_length_eq_zero hlen] at hx; cases hx⟩
  · rw [hd] at hz
    simp only [DataW.weights, ht] at hz
    refine ⟨?_, fun x hx => ?_⟩
    · have := hz _ (List.mem_cons_self)
      rw [hB, hl, hr] at this
      have h2 : n * 24 ≤ (n + r.length) * 24 := Nat.mul_le_mul_right _ (by omega)
      omega
    · obtain ⟨j, hjl, rfl⟩ := List.getElem_of_mem hx
      have hg : xss.getD j [] = xss[j] := by rw [List.getD_eq_getElem?_getD, List.getElem?_eq_getElem hjl]; rfl
      rcases hj j (by omega) with ⟨_, h1⟩ | ⟨l', r', h1, h2⟩
      · rw [hg] at h1; omega
      · rw [hg] at h2
        have hm : (DataW.slice l' r' : DataW H) ∈ l := List.mem_of_getElem? h1
        have := hz ((l'.length + r'.length) * P.bytesOf q) (List.mem_cons_of_mem _ (List.mem_append_left _ (vops.weights_all hm (by
          simp only [DataW.weights, he]
          exact List.mem_cons_self))))
        rw [hb, hr] at this
        omega
end Go.Proofs.YtfinaikgikifcaaDoor.rowsz
