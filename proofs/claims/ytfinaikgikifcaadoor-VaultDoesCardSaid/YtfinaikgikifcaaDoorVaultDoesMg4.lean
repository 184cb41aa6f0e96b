/- Openings, records and checkpoints while the power stays: plain Lean; and what is proved besides: see the words ahead of each part. -/
import Derived.Lib.SlBytesConst
import Derived.Test.YtfinaikgikifcaaDoorWSized
import Derived.ProofKit
import Derived.OpenShut
import Derived.Carry
import Derived.Deep.Matrix
import Derived.Lib.SmallJoins
import Derived.Deep.Slices
import Derived.SizedLaws
import Derived.ArgAppend
import Derived.Test.YtfinaikgikifcaaDoorVaultDoesMg3
set_option linter.unusedVariables false
set_option linter.unusedSimpArgs false
/- Openings, records and checkpoints while the power stays: plain Lean. -/
namespace Go.Proofs.YtfinaikgikifcaaDoor.vaultp
open Go.RowKit Go.Shelf Go.Proofs.YtfinaikgikifcaaDoorW.PrintWords Go.Proofs.YtfinaikgikifcaaDoor.base Go.Proofs.YtfinaikgikifcaaDoor.mem Go.Proofs.YtfinaikgikifcaaDoor.crcp Go.Proofs.YtfinaikgikifcaaDoor.crcw Go.Proofs.YtfinaikgikifcaaDoor.samew Go.Proofs.YtfinaikgikifcaaDoor.framep Go.Proofs.YtfinaikgikifcaaDoor.frameit Go.Proofs.YtfinaikgikifcaaDoor.framem Go.Proofs.YtfinaikgikifcaaDoor.framel Go.Proofs.YtfinaikgikifcaaDoor.framea Go.Proofs.YtfinaikgikifcaaDoor.framer Go.Proofs.YtfinaikgikifcaaDoor.framen Go.Proofs.YtfinaikgikifcaaDoor.diskp Go.Proofs.YtfinaikgikifcaaDoor.diskr Go.Proofs.YtfinaikgikifcaaDoor.diskw Go.Proofs.YtfinaikgikifcaaDoor.vaulta

theorem P_nil : P [] = [] := (P_stop (xs := []) firstN_nil).1
theorem E_nil : E [] = 0 := (P_stop (xs := []) firstN_nil).2
theorem PE_fencs {ps : List (List Int)} (h : ∀ p ∈ ps, p.length ≤ 1048576) : P (fencs ps) = ps ∧ E (fencs ps) = (fencs ps).length := by
  have := P_fencs ps [] h
  rw [List.append_nil, P_nil, E_nil, List.append_nil, Nat.add_zero] at this
  exact this
theorem fencs_one (p : List Int) : fencs [p] = fenc p := by simp [fencs]
theorem lookF_nil : lookF [] = (0, [], []) := by unfold lookF; rw [P_nil]; rfl
section
variable {d : D} {f : Nat} {g : Int} {s : List Int} {rs : List (List Int)}
theorem Neat.lens (h : Neat d f g s rs) : ∀ p ∈ (le8 g ++ s) :: rs, p.length ≤ 1048576 := by
  intro p hp
  rcases List.mem_cons.1 hp with rfl | hp
  · rw [List.length_append, le8_len]; exact h.hs
  · exact h.hr p hp
theorem Neat.file (h : Neat d f g s rs) : fileB d f = fencs ((le8 g ++ s) :: rs) := by unfold fileB; rw [h.b, h.w, List.append_nil]
theorem Neat.other (h : Neat d f g s rs) : fileB d (1 - f) = [] := by unfold fileB; rw [h.o.1, h.o.2]; rfl
theorem Neat.look (h : Neat d f g s rs) : lookF (fileB d f) = (g, s, rs) := by
  unfold lookF
  rw [h.file, (PE_fencs h.lens).1, lookP_good _ (good_le8 h.hg s), leN_le8 (by have := h.hg; omega), drop_le8]
theorem Neat.pick (h : Neat d f g s rs) : pick d = f := by
  have h1 := h.look
  have h2 := h.other
  have hg := h.hg
  unfold vaultp.pick
  match f, h.hf with
  | 0, _ => rw [h1, show fileB d 1 = [] from h2, lookF_nil, if_neg (by simp; omega)]
  | 1, _ => rw [h1, show fileB d 0 = [] from h2, lookF_nil, if_pos (by simp; omega)]
theorem Neat.openR (h : Neat d f g s rs) {s' : List Int} (hs' : 8 + s'.length ≤ 1048576) : ∃ d', openR d s' = ⟨d', 0, ⟨f, g, s, rs⟩⟩ ∧ Neat d' f g s rs ∧ d'.n = d.n + 1 ∧ d'.k = d.k := by
  obtain ⟨s1, s2, s3, s4, s5, s6⟩ := sync_live h.live h.hf
  have hsk : (syncR d f).1.k = d.k := by
    have hr : rdy d (f : Int) = 0 := rdy_live h.live (by have := h.hf; omega)
    unfold syncR
    rw [hr, if_neg (by simp)]
    unfold syncD
    rw [raw_live h.live, gone_live h.live]
    rfl
  refine ⟨(syncR d f).1, ?_, ⟨s2, h.hf, h.hg, h.hs, h.hr, h.by_, by rw [s4, h.w, List.append_nil]; exact h.b, s5, ?_⟩, s3, hsk⟩
  · have hg := h.hg
    have hw : wipeR d ((1 : Int) - f) (fileB d (1 - f)).length = (d, 0) := by rw [h.other]; exact if_pos rfl
    have hE := (PE_fencs h.lens).2
    unfold vaultp.openR
    rw [if_neg (by omega), h.live.off, if_neg (by simp), h.pick, h.look, if_neg (by show ¬ g = 0; omega)]
    unfold oldR
    rw [hw, if_neg (by simp), h.look]
    have hm : mendR d f (E (fileB d f) : Nat) (fileB d f).length = syncR d f := by
      unfold mendR
      rw [h.file, hE, if_neg (by omega)]
    show (⟨(mendR d f (E (fileB d f) : Nat) (fileB d f).length).1, (mendR d f (E (fileB d f) : Nat) (fileB d f).length).2, ⟨f, g, s, rs⟩⟩ : Opn) = _
    rw [hm, s1]
  · have hf := h.hf
    exact ⟨by rw [s6 _ (by omega) (by omega)]; exact h.o.1, by rw [s6 _ (by omega) (by omega)]; exact h.o.2⟩
theorem Neat.app (h : Neat d f g s rs) {ys : List Int} (hy : ys.length ≤ 1048576) (n : Int) : ∃ d', vappR d ⟨f, g, n, 0⟩ ys = (d', ⟨f, g, n + 1, 0⟩, 0) ∧ Neat d' f g s (rs ++ [ys]) ∧ d'.n = d.n + 2 := by
  obtain ⟨b1, b2, b3, b4, b5, b6⟩ := begin_live h.live h.hf (fenc ys)
  refine ⟨(beginR d f (fenc ys)).1, ?_, ⟨b2, h.hf, h.hg, h.hs, fun r hr => ?_, h.by_, ?_, b5, ?_⟩, b3⟩
  · unfold vappR
    rw [if_neg (by omega), if_neg (by simp)]
    show (if (beginR d f (fenc ys)).2 ≠ 0 then _ else _) = _
    rw [if_neg (by simp [b1])]
  · rcases List.mem_append.1 hr with hr | hr
    · exact h.hr r hr
    · rw [List.mem_singleton.1 hr]; exact hy
  · rw [b4, h.b, h.w, List.nil_append, ← List.cons_append, fencs_snoc]
  · have hf := h.hf
    exact ⟨by rw [b6 _ (by omega) (by omega)]; exact h.o.1, by rw [b6 _ (by omega) (by omega)]; exact h.o.2⟩
theorem Neat.ck (h : Neat d f g s rs) (hg : g < 4611686018427387904) {s' : List Int} (hs : 8 + s'.length ≤ 1048576) (hb : By s') (n : Int) : ∃ d', vckR d ⟨f, g, n, 0⟩ s' = (d', ⟨((1 - f : Nat) : Int), g + 1, 0, 0⟩, 0) ∧ Neat d' (1 - f) (g + 1) s' [] := by
  have hf := h.hf
  have hg1 := h.hg
  have e1 : (1 : Int) - f = ((1 - f : Nat) : Int) := by omega
  have e2 : (1 : Int) - ((1 - f : Nat) : Int) = f := by omega
  obtain ⟨b1, b2, b3, b4, b5, b6⟩ := begin_live h.live (f := 1 - f) (by omega) (firstB (g + 1) s')
  obtain ⟨c1, c2, c3, c4, c5, c6⟩ := cut_live b2 (f := f) hf (n := 0) (by omega)
  refine ⟨(cutR (beginR d ((1 - f : Nat) : Int) (firstB (g + 1) s')).1 f 0).1, ?_, ⟨c2, by omega, by omega, hs, by simp, hb, ?_, ?_, ?_⟩⟩
  · unfold vckR
    rw [if_neg (by omega), if_neg (by show ¬ _ ≤ g; omega), if_neg (by simp)]
    show (if (beginR d (1 - (f : Int)) (firstB (g + 1) s')).2 ≠ 0 then _ else if (cutR (beginR d (1 - (f : Int)) (firstB (g + 1) s')).1 (1 - (1 - (f : Int))) 0).2 ≠ 0 then _ else ((cutR (beginR d (1 - (f : Int)) (firstB (g + 1) s')).1 (1 - (1 - (f : Int))) 0).1, (⟨1 - (f : Int), g + 1, 0, 0⟩ : Vn), (0 : Int))) = _
    rw [e1, e2, if_neg (by simp [b1]), if_neg (fun hne => hne c1)]
  · rw [show ((0 : Nat) : Int) = 0 from rfl] at c6
    rw [c6 _ (by omega) (by omega), b4, h.o.1, h.o.2, fencs_one]
    rfl
  · rw [show ((0 : Nat) : Int) = 0 from rfl] at c6
    rw [c6 _ (by omega) (by omega), b5]
  · rw [show 1 - (1 - f) = f from by omega]
    rw [show ((0 : Nat) : Int) = 0 from rfl] at c4 c5
    exact ⟨by rw [c4]; rfl, by rw [c5]; simp⟩
/-- any disk while the power stays: an opening finds or makes a vault, and leaves a clean disk -/
theorem any_open (hl : Live d) (hb : ∀ i, i < 4 → By (d.b i)) {s : List Int} (hs : 8 + s.length ≤ 1048576) (hby : By s) : ∃ d' v, openR d s = ⟨d', 0, v⟩ ∧ Neat d' v.f v.g v.s v.r ∧ ((lookF (fileB d (pick d))).1 = 0 → v = ⟨0, 1, s, []⟩) := by
  unfold openR
  rw [if_neg (by omega), hl.off, if_neg (by simp)]
  have hpk : pick d < 2 := by unfold pick; split <;> omega
  have hfb : ∀ i, i < 2 → By (fileB d i) := fun i hi => by unfold fileB; exact (hb _ (by omega)).append (hb _ (by omega))
  by_cases h0 : (lookF (fileB d (pick d))).1 = 0
  · rw [if_pos h0]
    obtain ⟨w1, w2, w3, _, w4, w5, w6⟩ := wipe_live hl (f := 0) (by omega)
    obtain ⟨b1, b2, b3, b4, b5, b6⟩ := begin_live w2 (f := 0) (by omega) (firstB 1 s)
    have hfo : fileB (beginR (wipeR d ((0 : Nat) : Int) (fileB d 0).length).1 ((0 : Nat) : Int) (firstB 1 s)).1 1 = fileB d 1 := by
      show (beginR (wipeR d ((0 : Nat) : Int) (fileB d 0).length).1 ((0 : Nat) : Int) (firstB 1 s)).1.b (2 * 1) ++ (beginR (wipeR d ((0 : Nat) : Int) (fileB d 0).length).1 ((0 : Nat) : Int) (firstB 1 s)).1.b (2 * 1 + 1) = _
      rw [b6 _ (by omega) (by omega), b6 _ (by omega) (by omega), w6 _ (by omega) (by omega), w6 _ (by omega) (by omega)]
      rfl
    obtain ⟨v1, v2, v3, _, v4, v5, v6⟩ := wipe_live b2 (f := 1) (by omega)
    rw [hfo] at v1 v2 v3 v4 v5 v6
    refine ⟨_, ⟨0, 1, s, []⟩, ?_, ⟨v2, by show 0 < 2; omega, by show 1 ≤ (1 : Int) ∧ (1 : Int) ≤ 4611686018427387904; omega, hs, by simp, hby, ?_, ?_, ?_⟩, fun _ => rfl⟩
    · unfold newR
      rw [if_neg (fun h => h w1), if_neg (fun h => h b1)]
      show (⟨_, (wipeR (beginR (wipeR d ((0 : Nat) : Int) (fileB d 0).length).1 ((0 : Nat) : Int) (firstB 1 s)).1 ((1 : Nat) : Int) (fileB d 1).length).2, _⟩ : Opn) = _
      rw [v1]
      rfl
    · rw [v6 _ (by show 2 * 0 ≠ 2 * 1; omega) (by show 2 * 0 ≠ 2 * 1 + 1; omega)]
      show _ = fencs [le8 1 ++ s]
      rw [fencs_one]
      refine b4.trans ?_
      rw [w4, w5]
      rfl
    · rw [v6 _ (by show 2 * 0 + 1 ≠ 2 * 1; omega) (by show 2 * 0 + 1 ≠ 2 * 1 + 1; omega)]
      exact b5
    · exact ⟨v4, v5⟩
  · rw [if_neg h0]
    generalize hf : pick d = f at *
    have e1 : (1 : Int) - f = ((1 - f : Nat) : Int) := by omega
    obtain ⟨w1, w2, w3, _, w4, w5, w6⟩ := wipe_live hl (f := 1 - f) (by omega)
    have hff : fileB (wipeR d ((1 - f : Nat) : Int) (fileB d (1 - f)).length).1 f = fileB d f := by
      show (wipeR d ((1 - f : Nat) : Int) (fileB d (1 - f)).length).1.b (2 * f) ++ (wipeR d ((1 - f : Nat) : Int) (fileB d (1 - f)).length).1.b (2 * f + 1) = _
      rw [w6 _ (by omega) (by omega), w6 _ (by omega) (by omega)]
      rfl
    have hE := E_le (fileB d f)
    obtain ⟨p1, p2⟩ := fencs_P _ (fileB d f) (Nat.le_refl _) (hfb f hpk)
    -- what mend makes
    have hm : (mendR (wipeR d ((1 - f : Nat) : Int) (fileB d (1 - f)).length).1 f (E (fileB d f) : Nat) (fileB d f).length).2 = 0 ∧ Live (mendR (wipeR d ((1 - f : Nat) : Int) (fileB d (1 - f)).length).1 f (E (fileB d f) : Nat) (fileB d f).length).1 ∧
        (mendR (wipeR d ((1 - f : Nat) : Int) (fileB d (1 - f)).length).1 f (E (fileB d f) : Nat) (fileB d f).length).1.b (2 * f) = (fileB d f).take (E (fileB d f)) ∧
        (mendR (wipeR d ((1 - f : Nat) : Int) (fileB d (1 - f)).length).1 f (E (fileB d f) : Nat) (fileB d f).length).1.b (2 * f + 1) = [] ∧
        ∀ i, i ≠ 2 * f → i ≠ 2 * f + 1 → (mendR (wipeR d ((1 - f : Nat) : Int) (fileB d (1 - f)).length).1 f (E (fileB d f) : Nat) (fileB d f).length).1.b i = (wipeR d ((1 - f : Nat) : Int) (fileB d (1 - f)).length).1.b i := by
      generalize (wipeR d ((1 - f : Nat) : Int) (fileB d (1 - f)).length).1 = d1 at *
      unfold mendR
      by_cases hlt : ((E (fileB d f) : Nat) : Int) < ((fileB d f).length : Nat)
      · rw [if_pos hlt]
        obtain ⟨c1, c2, c3, c4, c5, c6⟩ := cut_live w2 hpk (n := E (fileB d f)) (by rw [hff]; exact hE)
        obtain ⟨s1, s2, s3, s4, s5, s6⟩ := sync_live c2 hpk
        rw [if_pos c1]
        refine ⟨s1, s2, ?_, s5, fun i h1 h2 => by rw [s6 i h1 h2, c6 i h1 h2]⟩
        rw [s4, c4, c5, ← List.take_append]
        exact congrArg (List.take _) hff
      · rw [if_neg hlt]
        obtain ⟨s1, s2, s3, s4, s5, s6⟩ := sync_live w2 hpk
        refine ⟨s1, s2, ?_, s5, s6⟩
        rw [s4, List.take_of_length_le (by omega), ← hff]
        rfl
    obtain ⟨m1, m2, m3, m4, m5⟩ := hm
    -- the payloads of the file
    have hlk : ∃ p r, P (fileB d f) = p :: r ∧ goodP p := by
      cases hP : P (fileB d f) with
      | nil => unfold lookF at h0; rw [hP] at h0; exact absurd rfl h0
      | cons p r =>
        by_cases hg : goodP p
        · exact ⟨p, r, rfl, hg⟩
        · unfold lookF at h0; rw [hP, lookP_bad r hg] at h0; exact absurd rfl h0
    obtain ⟨p, r, hP, hg⟩ := hlk
    have hlook : lookF (fileB d f) = (leN p, p.drop 8, r) := by unfold lookF; rw [hP, lookP_good r hg]
    have hpin := p2 p (by rw [hP]; simp)
    refine ⟨_, ⟨f, leN p, p.drop 8, r⟩, ?_, ⟨m2, hpk, hg.2, by show 8 + (p.drop 8).length ≤ _; rw [List.length_drop]; have := hg.1; omega, fun q hq => (p2 q (by rw [hP]; simp [hq])).1, hpin.2.drop 8, ?_, m4, ?_⟩, fun h => absurd h h0⟩
    · unfold oldR
      rw [e1, if_neg (fun h => h w1), hlook, m1]
    · rw [m3, ← p1, hP, le8_leN hpin.2 hg.1]
    · exact ⟨by rw [m5 _ (by show 2 * (1 - f) ≠ 2 * f; omega) (by show 2 * (1 - f) ≠ 2 * f + 1; omega)]; exact w4, by rw [m5 _ (by show 2 * (1 - f) + 1 ≠ 2 * f; omega) (by show 2 * (1 - f) + 1 ≠ 2 * f + 1; omega)]; exact w5⟩
theorem load_live (a b : List Int) : Live (diskp.load a b) := ⟨rfl, rfl⟩
theorem load_by {a b : List Int} (ha : By a) (hb : By b) : ∀ i, i < 4 → By ((diskp.load a b).b i) := fun i hi => by
  match i, hi with
  | 0, _ => exact ha
  | 1, _ => exact By_of _ (by simp [diskp.load])
  | 2, _ => exact hb
  | 3, _ => exact By_of _ (by simp [diskp.load])
theorem fresh_open {s : List Int} (hs : 8 + s.length ≤ 1048576) (hby : By s) : ∃ d', openR (diskp.load [] []) s = ⟨d', 0, ⟨0, 1, s, []⟩⟩ ∧ Neat d' 0 1 s [] := by
  obtain ⟨d', v, h1, h2, h3⟩ := any_open (load_live [] []) (load_by (By_of _ (by simp)) (By_of _ (by simp))) hs hby
  have h4 := h3 (by
    have e : ∀ f, f < 2 → fileB (diskp.load [] []) f = [] := fun f hf => by
      match f, hf with
      | 0, _ => rfl
      | 1, _ => rfl
    have hp : pick (diskp.load [] []) < 2 := by unfold pick; split <;> omega
    rw [e _ hp, lookF_nil])
  subst h4
  exact ⟨d', h1, h2⟩
/-- bounds of a disk on which a vault lies -/
theorem Neat.ok (h : Neat d f g s rs) {N : Nat} (hn : 0 ≤ d.n ∧ d.n ≤ N) (hk : -9223372036854775808 ≤ d.k ∧ d.k ≤ 9223372036854775807) : Ok d (fencs ((le8 g ++ s) :: rs)).length N := by
  have hf := h.hf
  refine ⟨?_, hn, by rw [h.live.a]; omega, hk⟩
  unfold tot
  match f, hf with
  | 0, _ => rw [h.b, h.w, h.o.1, h.o.2]; simp
  | 1, _ =>
    have h1 := h.o.1
    have h2 := h.o.2
    have h3 := h.b
    have h4 := h.w
    simp only [Nat.sub_self, Nat.mul_zero, Nat.mul_one, Nat.zero_add] at h1 h2 h3 h4 ⊢
    rw [h1, h2, h3, h4]
    simp
theorem Neat.count (h : Neat d f g s rs) (i : Nat) (hi : i < 2) : (P (fileB d i)).length ≤ rs.length + 1 := by
  have hf := h.hf
  by_cases e : i = f
  · subst e
    rw [h.file, (PE_fencs h.lens).1]
    simp
  · have : i = 1 - f := by omega
    subst this
    rw [h.other, P_nil]
    simp
theorem fencs_size (g : Int) (s : List Int) (rs : List (List Int)) : (fencs ((le8 g ++ s) :: rs)).length = 16 + s.length + (rs.length * 8 + rs.flatten.length) := by
  show (fenc (le8 g ++ s) ++ fencs rs).length = _
  rw [List.length_append, fenc_len, List.length_append, le8_len, fencs_len]
  omega
theorem Neat.small (h : Neat d f g s rs) {S N : Nat} (hk : Ok d S N) : 16 + s.length + (rs.length * 8 + rs.flatten.length) ≤ S := by
  rw [← fencs_size g s rs, ← h.b]
  exact hk.len _ (by have := h.hf; omega)
end
end Go.Proofs.YtfinaikgikifcaaDoor.vaultp
/- The laws' wakes; Open of disks on which the power stays. -/
namespace Go.Proofs.YtfinaikgikifcaaDoor.vaultk
open Go.RowKit Go.Shelf Go.Proofs.YtfinaikgikifcaaDoorW.PrintWords Go.Proofs.YtfinaikgikifcaaDoor.base Go.Proofs.YtfinaikgikifcaaDoor.mem Go.Proofs.YtfinaikgikifcaaDoor.keep Go.Proofs.YtfinaikgikifcaaDoor.crcp Go.Proofs.YtfinaikgikifcaaDoor.crcw Go.Proofs.YtfinaikgikifcaaDoor.samew Go.Proofs.YtfinaikgikifcaaDoor.framep Go.Proofs.YtfinaikgikifcaaDoor.framew Go.Proofs.YtfinaikgikifcaaDoor.frameit Go.Proofs.YtfinaikgikifcaaDoor.framem Go.Proofs.YtfinaikgikifcaaDoor.framel Go.Proofs.YtfinaikgikifcaaDoor.framea Go.Proofs.YtfinaikgikifcaaDoor.framer Go.Proofs.YtfinaikgikifcaaDoor.framen Go.Proofs.YtfinaikgikifcaaDoor.framek Go.Proofs.YtfinaikgikifcaaDoor.diskp Go.Proofs.YtfinaikgikifcaaDoor.diskr Go.Proofs.YtfinaikgikifcaaDoor.diskw Go.Proofs.YtfinaikgikifcaaDoor.vaultp Go.Proofs.YtfinaikgikifcaaDoor.vaultw Go.Proofs.YtfinaikgikifcaaDoor.vaultl Go.Proofs.YtfinaikgikifcaaDoor.vaulta Go.Proofs.YtfinaikgikifcaaDoor.vaulto

/-- Open answered a vault -/
def RetG (w : World) (base p : Nat) (cs : Nat → Sl) (d' : D) (v : Vt) (e : Ending) (w' : World) : Prop :=
  ∃ q A n c B m c2 cells cs', e = .returned (.tuple #[.pointer (some ⟨q, 0, none⟩), .slice A n c, .slice B m c2, .int .i64 0]) ∧ DAt w' base p cs' d' ∧ DStep w base p cs w' cs' ∧ VB w' q p v.f v.g (v.r.length : Nat) 0 ∧ (w.heap.size ≤ q ∧ ¬ Ft p cs' q) ∧
    Got (fun j => w.heap.size ≤ j ∧ ¬ Ft p cs' j ∧ j ≠ q) w' w.heap.size A n c v.s B m c2 cells v.r
theorem RetOp.got {w : World} {base p : Nat} {cs : Nat → Sl} {d' : D} {v : Vt} {s : Prop} {e : Ending} {w' : World} (h : RetOp w base p cs ⟨d', 0, v⟩ s e w') : RetG w base p cs d' v e w' := by
  rcases h with ⟨h, _⟩ | ⟨_, q, A, n, c, B, m, c2, cells, cs', h1, h2, h3, h4, h5, h6, _⟩
  · exact absurd rfl h
  · exact ⟨q, A, n, c, B, m, c2, cells, cs', h1, h2, h3, h4, h5, h6⟩
/-- Open answered a new vault: its snapshot is memory of its own -/
def RetGN (w : World) (base p : Nat) (cs : Nat → Sl) (d' : D) (s : List Int) (e : Ending) (w' : World) : Prop :=
  ∃ q A n c B m c2 cs', e = .returned (.tuple #[.pointer (some ⟨q, 0, none⟩), .slice A n c, .slice B m c2, .int .i64 0]) ∧ DAt w' base p cs' d' ∧ DStep w base p cs w' cs' ∧ VB w' q p 0 1 0 0 ∧ (w.heap.size ≤ q ∧ ¬ Ft p cs' q) ∧
    OwB w' w.heap.size A n c s ∧ (∀ j, (Value.slice A n c).ownBlock = some j → w.heap.size ≤ j ∧ ¬ Ft p cs' j ∧ j ≠ q)
theorem RetOp.new {w : World} {base p : Nat} {cs : Nat → Sl} {d' : D} {s : List Int} {pr : Prop} {e : Ending} {w' : World} (h : RetOp w base p cs ⟨d', 0, ⟨0, 1, s, []⟩⟩ pr e w') (hp : pr) : RetGN w base p cs d' s e w' := by
  rcases h with ⟨h, _⟩ | ⟨_, q, A, n, c, B, m, c2, cells, cs', h1, h2, h3, h4, h5, _, h6⟩
  · exact absurd rfl h
  · exact ⟨q, A, n, c, B, m, c2, cs', h1, h2, h3, h4, h5, (h6 hp).1, (h6 hp).2⟩
theorem Calls.toG {w : World} {base p : Nat} {cs : Nat → Sl} {r : Opn} {d' : D} {v : Vt} {s : Prop} {f : Nat} {args : Array Value} (h : Calls Tryd.prog f args w (RetOp w base p cs r s)) (hr : r = ⟨d', 0, v⟩) : Calls Tryd.prog f args w (RetG w base p cs d' v) := by
  subst hr
  exact h.mono fun _ _ h => RetOp.got h
/-- Open of a clean disk -/
theorem open_clean {w : World} {base p : Nat} {cs : Nat → Sl} {d : D} {f : Nat} {g : Int} {s : List Int} {rs : List (List Int)} {N : Nat} (h : DAt w base p cs d) (hc : Neat d f g s rs) (hN : 0 ≤ d.n ∧ d.n ≤ N) (hk : -9223372036854775808 ≤ d.k ∧ d.k ≤ 9223372036854775807) (hNN : N + 4 ≤ 4611686018427387904) (hrs : rs.length ≤ 5864062014803) (hfl : rs.flatten.length ≤ 1099511627776)
    (A : Option Addr) (n c : Nat) (s' : List Int) (hsn : ∀ (w' : World) (cs' : Nat → Sl), DStep w base p cs w' cs' → RdB w' A n s') (hs' : 8 + s'.length ≤ 1048576) (ht : Table w) :
    ∃ d', Neat d' f g s rs ∧ d'.n = d.n + 1 ∧ d'.k = d.k ∧ openR d s' = ⟨d', 0, ⟨f, g, s, rs⟩⟩ ∧ Calls Tryd.prog 11 #[.pointer (some ⟨p, 0, none⟩), .slice A n c] w (RetG w base p cs d' ⟨f, g, s, rs⟩) := by
  obtain ⟨d', h1, h2, h3, h4⟩ := hc.openR hs'
  have hs := hc.hs
  have hsz := fencs_size g s rs
  exact ⟨d', h2, h3, h4, h1, Calls.toG (open_on h (hc.ok hN hk) A n c s' hsn hs' (by omega) hNN hc.live.off (Nat.le_trans (hc.count 0 (by omega)) (by omega)) (Nat.le_trans (hc.count 1 (by omega)) (by omega)) ht) h1⟩
/-- Open of a new disk -/
theorem open_fresh {w : World} {base p : Nat} {cs : Nat → Sl} (h : DAt w base p cs (diskp.load [] [])) (A : Option Addr) (n c : Nat) (s' : List Int) (hsn : ∀ (w' : World) (cs' : Nat → Sl), DStep w base p cs w' cs' → RdB w' A n s') (hs' : 8 + s'.length ≤ 1048576) (ht : Table w) :
    ∃ d', Neat d' 0 1 s' [] ∧ (0 ≤ d'.n ∧ d'.n ≤ 4) ∧ (-9223372036854775808 ≤ d'.k ∧ d'.k ≤ 9223372036854775807) ∧ openR (diskp.load [] []) s' = ⟨d', 0, ⟨0, 1, s', []⟩⟩ ∧ Calls Tryd.prog 11 #[.pointer (some ⟨p, 0, none⟩), .slice A n c] w (RetG w base p cs d' ⟨0, 1, s', []⟩) := by
  have hby := (hsn w cs (DStep.refl _ _ _ _)).2
  obtain ⟨d', h1, h2⟩ := fresh_open hs' hby
  have hok : Ok (diskp.load [] []) 0 0 := Ok.load [] []
  have h4 := Ok.openR hok s'
  rw [h1] at h4
  have hc : ∀ f, f < 2 → (P (fileB (diskp.load [] []) f)).length ≤ 5864062014804 := fun f hf => by
    have e : fileB (diskp.load [] []) f = [] := by
      match f, hf with
      | 0, _ => rfl
      | 1, _ => rfl
    rw [e, P_nil]
    simp
  exact ⟨d', h2, ⟨h4.n.1, by have := h4.n.2; omega⟩, h4.k, h1, Calls.toG (open_on h hok A n c s' hsn hs' (by omega) (by omega) rfl (hc 0 (by omega)) (hc 1 (by omega)) ht) h1⟩
theorem load_pick : (lookF (fileB (diskp.load [] []) (vaultp.pick (diskp.load [] [])))).1 = 0 := by
  have e : ∀ f, f < 2 → fileB (diskp.load [] []) f = [] := fun f hf => by
    match f, hf with
    | 0, _ => rfl
    | 1, _ => rfl
  have hp : vaultp.pick (diskp.load [] []) < 2 := by unfold vaultp.pick; split <;> omega
  rw [e _ hp, lookF_nil]
/-- Open of a new disk: the snapshot that is answered is new memory -/
theorem open_freshN {w : World} {base p : Nat} {cs : Nat → Sl} (h : DAt w base p cs (diskp.load [] [])) (A : Option Addr) (n c : Nat) (s' : List Int) (hsn : ∀ (w' : World) (cs' : Nat → Sl), DStep w base p cs w' cs' → RdB w' A n s') (hs' : 8 + s'.length ≤ 1048576) (ht : Table w) :
    ∃ d', Neat d' 0 1 s' [] ∧ (0 ≤ d'.n ∧ d'.n ≤ 4) ∧ (-9223372036854775808 ≤ d'.k ∧ d'.k ≤ 9223372036854775807) ∧ Calls Tryd.prog 11 #[.pointer (some ⟨p, 0, none⟩), .slice A n c] w (RetGN w base p cs d' s') := by
  have hby := (hsn w cs (DStep.refl _ _ _ _)).2
  obtain ⟨d', h1, h2⟩ := fresh_open hs' hby
  have hok : Ok (diskp.load [] []) 0 0 := Ok.load [] []
  have h4 := Ok.openR hok s'
  rw [h1] at h4
  have hc : ∀ f, f < 2 → (P (fileB (diskp.load [] []) f)).length ≤ 5864062014804 := fun f hf => by
    have e : fileB (diskp.load [] []) f = [] := by
      match f, hf with
      | 0, _ => rfl
      | 1, _ => rfl
    rw [e, P_nil]
    simp
  have hO := open_on h hok A n c s' hsn hs' (by omega) (by omega) rfl (hc 0 (by omega)) (hc 1 (by omega)) ht
  rw [h1] at hO
  exact ⟨d', h2, ⟨h4.n.1, by have := h4.n.2; omega⟩, h4.k, hO.mono fun _ _ h => RetOp.new h load_pick⟩
/-- Open of any disk of bytes while the power stays -/
theorem open_live {w : World} {base p : Nat} {cs : Nat → Sl} {d : D} {S N : Nat} (h : DAt w base p cs d) (hl : Live d) (hb : ∀ i, i < 4 → By (d.b i)) (hok : Ok d S N) (hS : S ≤ 4194304) (hN : N ≤ 4194304) (A : Option Addr) (n c : Nat) (s' : List Int) (hsn : ∀ (w' : World) (cs' : Nat → Sl), DStep w base p cs w' cs' → RdB w' A n s') (hs' : 8 + s'.length ≤ 1048576) (ht : Table w) :
    ∃ d' v, Neat d' v.f v.g v.s v.r ∧ Ok d' (S + 1048584) (N + 4) ∧ openR d s' = ⟨d', 0, v⟩ ∧ Calls Tryd.prog 11 #[.pointer (some ⟨p, 0, none⟩), .slice A n c] w (RetG w base p cs d' v) := by
  have hby := (hsn w cs (DStep.refl _ _ _ _)).2
  obtain ⟨d', v, h1, h2, _⟩ := any_open hl hb hs' hby
  have h4 := Ok.openR hok s'
  rw [h1] at h4
  have hc : ∀ f, f < 2 → (P (fileB d f)).length ≤ 5864062014804 := fun f hf => by
    have e1 := P_len _ (fileB d f) (Nat.le_refl _)
    have e2 : (fileB d f).length ≤ S := by
      unfold fileB
      rw [List.length_append]
      match f, hf with
      | 0, _ => exact hok.s.1
      | 1, _ => exact hok.s.2
    omega
  exact ⟨d', v, h2, h4, h1, Calls.toG (open_on h hok A n c s' hsn hs' (by omega) (by omega) hl.off (hc 0 (by omega)) (hc 1 (by omega)) ht) h1⟩
end Go.Proofs.YtfinaikgikifcaaDoor.vaultk
/- The laws' wakes. -/
namespace Go.Proofs.YtfinaikgikifcaaDoor.vaultk
open Go.RowKit Go.Shelf Go.Proofs.YtfinaikgikifcaaDoorW.PrintWords Go.Proofs.YtfinaikgikifcaaDoor.base Go.Proofs.YtfinaikgikifcaaDoor.mem Go.Proofs.YtfinaikgikifcaaDoor.keep Go.Proofs.YtfinaikgikifcaaDoor.crcp Go.Proofs.YtfinaikgikifcaaDoor.crcw Go.Proofs.YtfinaikgikifcaaDoor.samew Go.Proofs.YtfinaikgikifcaaDoor.framep Go.Proofs.YtfinaikgikifcaaDoor.framew Go.Proofs.YtfinaikgikifcaaDoor.frameit Go.Proofs.YtfinaikgikifcaaDoor.framem Go.Proofs.YtfinaikgikifcaaDoor.framel Go.Proofs.YtfinaikgikifcaaDoor.framea Go.Proofs.YtfinaikgikifcaaDoor.framer Go.Proofs.YtfinaikgikifcaaDoor.framen Go.Proofs.YtfinaikgikifcaaDoor.framek Go.Proofs.YtfinaikgikifcaaDoor.diskp Go.Proofs.YtfinaikgikifcaaDoor.diskr Go.Proofs.YtfinaikgikifcaaDoor.diskw Go.Proofs.YtfinaikgikifcaaDoor.vaultp Go.Proofs.YtfinaikgikifcaaDoor.vaultw Go.Proofs.YtfinaikgikifcaaDoor.vaultl Go.Proofs.YtfinaikgikifcaaDoor.vaulta Go.Proofs.YtfinaikgikifcaaDoor.vaulto

set_option maxHeartbeats 2000000 in
set_option maxRecDepth 100000 in
theorem wakes_any (w : World) (ht : Table w) : Calls Tryd.prog 8 #[] w fun e w' => e = .returned (.bool true) ∧ Below w.heap.size w w' := by
  have HT := Lib.hid ht
  have L1 : Hid (By [115]) := Lib.hid (By_of _ (by decide))
  have L2 : Hid (By [97]) := Lib.hid (By_of _ (by decide))
  clear ht
  have kc := fun (w : World) (C : Array Value) (n c : Nat) => Lib.run_convert_bytes_const (P := Tryd.prog) w 22 5 C n c Tryd.underlying22 Tryd.underlying5
  go_enter Tryd.func8, Tryd.ntmps8
  go_wp2_with fail
  refine (new_any w).mono ?_
  rintro e w1 ⟨p, cs, rfl, hd1, hb1⟩
  have HD1 := Lib.hid hd1
  have HB1 := Lib.hid hb1
  have hs1 := hb1.size
  clear hd1 hb1
  go_wp2_with fail
  have BB := below_alloc (Below.refl w1.heap.size w1) (.cells #[.int .u8 115] 5 (1, 2))
  have HD2 := Lib.hid (HD1.out.below BB)
  have HB2 := Lib.hid (HB1.out.trans (BB.mono hs1))
  have HL2 := Lib.hid (litB w1 (1, 2) [115] (Nat.le_of_ble_eq_true rfl) L1.out)
  have HNF : Hid (¬ Ft p cs w1.heap.size) := Lib.hid fun h => absurd (HD1.out.ft h).2 (Nat.lt_irrefl _)
  have hz2 : (w1.alloc (.cells #[.int .u8 115] 5 (1, 2))).heap.size = w1.heap.size + 1 := by simp
  obtain ⟨d3, hc3, hn3, hk3, ho3, HO⟩ := open_fresh (s' := [115]) HD2.out (some ⟨w1.heap.size, 0, none⟩) 1 1 (fun w' cs' st => RdB.kp HL2.out (fun _ => ⟨_, rfl, HNF.out, by show _ < (w1.alloc _).heap.size; rw [World.size_alloc]; omega⟩) st.keep) (by decide) (HT.out.below HB2.out)
  have HC3 := Lib.hid hc3
  have HO3 := Lib.hid HO
  clear HO ho3 hc3
  refine HO3.out.mono ?_
  rintro e w3 ⟨q, A3, n3, c3, B3, m3, e3, cells3, cs3, rfl, h3, s3, hv3, ⟨hq3, hnq3⟩, hg3⟩
  have HD3 := Lib.hid h3
  have HV3 : Hid (VB w3 q p 0 1 0 0) := Lib.hid hv3
  have HNQ3 := Lib.hid hnq3
  have hB23 := s3.bel
  have HB3 := Lib.hid (HB2.out.trans s3.bel)
  have hr3 := hg3.rd
  have hn1 : n3 = 1 := hr3.len.symm
  subst hn1
  have hm3 : m3 = 0 := by
    have h1 := OwV.len hg3.rows
    have h2 := hg3.each.len
    simp only [List.length_nil] at h2
    omega
  subst hm3
  have hs3 := HB3.out.size
  have str3 : (convert 22 9 (.slice A3 1 c3)).run Tryd.prog w3 = .ok (.string ⟨#[115]⟩) w3 := str hr3 0 c3
  have B4 := below_alloc (Below.refl w3.heap.size w3) (.cells #[.int .u8 97] 5 (1, 2))
  have HD4 := Lib.hid (HD3.out.below B4)
  have HV4 := Lib.hid (HV3.out.below B4)
  have HB4 := Lib.hid (HB3.out.trans (B4.mono hs3))
  have HL4 := Lib.hid (litB w3 (1, 2) [97] (Nat.le_of_ble_eq_true rfl) L2.out)
  clear h3 s3 hv3 hnq3 hg3 hr3 hB23 HO3 B4 BB
  have hqb : w.heap.size ≤ q := by omega
  obtain ⟨d5, ha5, hc5, hn5⟩ := HC3.out.app (ys := [97]) (by decide) 0
  have HA := Lib.hid (vaulta.append_any (v := ⟨0, 1, 0, 0⟩) HD4.out (HC3.out.ok hn3 hk3) HV4.out hqb HNQ3.out (by decide) (some ⟨w3.heap.size, 0, none⟩) 1 1 [97] HL4.out (by decide) (by decide) (by decide) (HT.out.below HB4.out))
  rw [show vappR d3 ⟨0, 1, 0, 0⟩ [97] = (d5, ⟨0, 1, 1, 0⟩, 0) from ha5] at HA
  have HC5 := Lib.hid hc5
  have hok5 := Ok.vapp (HC3.out.ok hn3 hk3) ⟨0, 1, 0, 0⟩ [97]
  rw [show vappR d3 ⟨0, 1, 0, 0⟩ [97] = (d5, ⟨0, 1, 1, 0⟩, 0) from ha5] at hok5
  have HOK5 := Lib.hid hok5
  clear ha5 hc5 hok5
  go_wp2_with fail
  refine HA.out.mono ?_
  rintro e w5 ⟨rfl, cs5, h5, s5, hv5, hnq5⟩
  have HB5 := Lib.hid (HB4.out.trans s5.bel)
  obtain ⟨d6, hc6, hn6, hk6, ho6, HO⟩ := open_clean (s' := []) h5 HC5.out HOK5.out.n HOK5.out.k (by decide) (by decide) (by decide) none 0 0 (fun _ _ _ => nilB _) (by decide) (HT.out.below HB5.out)
  have HO6 := Lib.hid HO
  clear HO str3 h5 s5 hv5 hnq5 ho6 hn6 hk6
  go_wp2_with fail
  refine HO6.out.mono ?_
  rintro e w6 ⟨q6, A6, n6, c6, B6, m6, e6, cells6, cs6, rfl, h6, s6, _, _, hg6⟩
  have HB6 := Lib.hid (HB5.out.trans s6.bel)
  have hr6 := hg6.rd
  have hn1 : n6 = 1 := hr6.len.symm
  subst hn1
  have hm6 : m6 = 1 := by
    have h1 := OwV.len hg6.rows
    have h2 := hg6.each.len
    simp only [List.length_cons, List.length_nil, List.nil_append] at h2
    omega
  subst hm6
  obtain ⟨g6, hB6⟩ := OwV.form hg6.rows (by omega)
  subst hB6
  obtain ⟨a7, m7, c7, he7, ho7⟩ := hg6.each.at_ 0 (by decide)
  have hc7 := (OwV.at_ hg6.rows 0 he7).1
  have hr7 : RdB w6 a7 m7 [97] := ho7.rd
  have hm7 : m7 = 1 := hr7.len.symm
  subst hm7
  have str6 : (convert 22 9 (.slice A6 1 c6)).run Tryd.prog w6 = .ok (.string ⟨#[115]⟩) w6 := str hr6 0 c6
  have str7 : (convert 22 9 (.slice a7 1 c7)).run Tryd.prog w6 = .ok (.string ⟨#[97]⟩) w6 := str hr7 0 c7
  clear h6 s6 hg6 hr6 hr7 ho7 he7
  go_wp2
  go_ret
  exact ⟨rfl, HB6.out⟩
end Go.Proofs.YtfinaikgikifcaaDoor.vaultk
/- How arguments of the laws are opened: slices of bytes, slices of whole numbers, slices of slices of bytes. -/
namespace Go.Proofs.YtfinaikgikifcaaDoor.shapes
open Go.ChangeShapes Go.WideShapes Go.ChangeAt Go.RowKit Go.Proofs.YtfinaikgikifcaaDoorW.PrintWords Go.Proofs.YtfinaikgikifcaaDoor.base

section
variable {H : Type} {enc : TypeId × Value → H} {P : Program} {W : World} {base : Nat}

theorem places_lt {t : TypeId} {v : Value} {d : DataW H} {ps : List MemPlace} (h : DataW.Trod enc P W 0 (fun _ => true) true t v d ps) : ∀ x ∈ ps, x.block < W.heap.size := by
  obtain ⟨m, hm⟩ := h
  exact DataW.trod_lt m _ _ _ hm

/-- a slice of whole numbers -/
theorem openInts {t e : TypeId} {k : IntKind} {v : Value} {d : DataW H} {ps : List MemPlace} (ht : P.underlying t = some (.slice e)) (he : P.underlying e = some (.int k)) (hc : P.cellsOf e = 1)
    (hv : Value.okWide P W .any base t v) (h : DataW.Trod enc P W 0 (fun _ => true) true t v d ps) :
    ∃ (A : Option Addr) (n c : Nat) (xs : List Int), v = .slice A n c ∧ n ≤ c ∧ c ≤ 9223372036854775807 ∧ ReadsInt W k A n xs ∧ (∀ x ∈ xs, (Lit.int k x).wf = true) ∧ (d = .nil ∧ n = 0 ∨ ∃ l r : List (DataW H), d = .slice l r ∧ l.length = n) := by
  obtain ⟨A, n, c, rfl⟩ := okWide_slice ht hv
  obtain ⟨fuel, hf⟩ := h
  rcases open_ints ht he hc hf with ⟨hcs, hx⟩ | ⟨x, l, c', zs, hcs, _, hl, hm, hz, hx, hcell, hwz⟩
  · simp [Value.cells] at hcs
    obtain ⟨rfl, rfl, rfl⟩ := hcs
    exact ⟨none, 0, 0, [], rfl, Nat.le_refl _, by omega, ⟨rfl, by omega, fun h => absurd h (by omega)⟩, by simp, .inl ⟨(Prod.mk.inj hx).1, rfl⟩⟩
  · simp [Value.cells] at hcs
    obtain ⟨rfl, rfl, rfl⟩ := hcs
    simp at hz
    unfold maxLen at hm
    refine ⟨some x, n, c, zs.take n, rfl, hl, hm, ⟨by rw [List.length_take]; omega, by omega, fun h0 => ⟨x, rfl, fun j hj => ?_⟩⟩, fun y hy => hwz y (List.mem_of_mem_take hy), .inr ⟨_, _, (Prod.mk.inj hx).1, by simp [lits]; omega⟩⟩
    rw [hcell j (by omega)]
    simp [List.getD_eq_getElem?_getD, List.getElem?_take, hj]

theorem openBytes {t e : TypeId} {v : Value} {d : DataW H} {ps : List MemPlace} (ht : P.underlying t = some (.slice e)) (he : P.underlying e = some (.int .u8)) (hc : P.cellsOf e = 1)
    (hv : Value.okWide P W .any base t v) (h : DataW.Trod enc P W 0 (fun _ => true) true t v d ps) :
    ∃ (A : Option Addr) (n c : Nat) (xs : List Int), v = .slice A n c ∧ n ≤ c ∧ c ≤ 9223372036854775807 ∧ RdB W A n xs ∧ (d = .nil ∧ n = 0 ∨ ∃ l r : List (DataW H), d = .slice l r ∧ l.length = n) := by
  obtain ⟨A, n, c, xs, h1, h2, h3, h4, h5, h6⟩ := openInts ht he hc hv h
  exact ⟨A, n, c, xs, h1, h2, h3, ⟨h4, By_of _ fun x hx => bounds_u8 (h5 x hx)⟩, h6⟩

/-- a slice of slices of bytes -/
theorem openRows {t e q : TypeId} {v : Value} {d : DataW H} {ps : List MemPlace} (ht : P.underlying t = some (.slice e)) (he : P.underlying e = some (.slice q)) (hq : P.underlying q = some (.int .u8)) (ce : P.cellsOf e = 1) (cq : P.cellsOf q = 1)
    (hv : Value.okWide P W .any base t v) (h : DataW.Trod enc P W 0 (fun _ => true) true t v d ps) :
    ∃ (A : Option Addr) (n c : Nat) (xss : List (List Int)), v = .slice A n c ∧ n ≤ c ∧ c ≤ 9223372036854775807 ∧ RdBB W A n xss ∧
      (d = .nil ∧ n = 0 ∨ ∃ l r : List (DataW H), d = .slice l r ∧ l.length = n ∧ ∀ j, j < n → l[j]? = some .nil ∧ (xss.getD j []).length = 0 ∨ ∃ l' r', l[j]? = some (.slice l' r') ∧ (xss.getD j []).length = l'.length) := by
  obtain ⟨A, n, c, rfl⟩ := okWide_slice ht hv
  obtain ⟨fuel, hf⟩ := h
  rcases Deep.open_int_rows ht he hq ce cq hf with ⟨hcs, hx⟩ | ⟨x, l, c', A', L, C, Z, hcs, _, hl, hm, hx, hcell⟩
  · simp [Value.cells] at hcs
    obtain ⟨rfl, rfl, rfl⟩ := hcs
    exact ⟨none, 0, 0, [], rfl, Nat.le_refl _, by omega, ⟨rfl, by omega, fun h => absurd h (by omega)⟩, .inl ⟨(Prod.mk.inj hx).1, rfl⟩⟩
  · simp [Value.cells] at hcs
    obtain ⟨rfl, rfl, rfl⟩ := hcs
    unfold maxLen at hm
    have hg : ∀ j, j < n → ((List.range n).map fun r => (Z r).take (L r)).getD j [] = (Z j).take (L j) := by
      intro j hj
      simp [List.getD_eq_getElem?_getD, hj]
    refine ⟨some x, n, c, (List.range n).map fun r => (Z r).take (L r), rfl, hl, hm, ⟨by simp, by omega, fun h0 => ⟨x, rfl, fun j hj => ?_⟩⟩, .inr ⟨_, _, (Prod.mk.inj hx).1, by simp, fun j hj => ?_⟩⟩
    · obtain ⟨h1, h2, h3, h4, h5, h6, h7⟩ := hcell j (by omega)
      unfold maxLen at h3
      refine ⟨_, _, _, h1, h2, ?_⟩
      rw [hg j hj]
      refine ⟨⟨by rw [List.length_take]; omega, by omega, fun hp => ?_⟩, By_of _ fun y hy => bounds_u8 (h5 y (List.mem_of_mem_take hy))⟩
      cases ha : A' j with
      | none => have := h6 ha; omega
      | some a' =>
        refine ⟨a', rfl, fun i hi => ?_⟩
        rw [(h7 a' ha).2 i (by omega)]
        simp [List.getD_eq_getElem?_getD, List.getElem?_take, hi]
    · obtain ⟨h1, h2, h3, h4, h5, h6, h7⟩ := hcell j (by omega)
      rw [hg j hj]
      have hl' : ((List.range n).map fun r => Deep.intRow (H := H) .u8 (A' r) (L r) (Z r))[j]? = some (Deep.intRow .u8 (A' j) (L j) (Z j)) := by simp [hj]
      rw [hl']
      have hlen : ((Z j).take (L j)).length = L j := by rw [List.length_take]; omega
      rw [hlen]
      cases ha : A' j with
      | none => left; exact ⟨by simp [Deep.intRow], by have := h6 ha; omega⟩
      | some a' => right; exact ⟨_, _, by simp [Deep.intRow]; exact ⟨rfl, rfl⟩, by simp [lits]; omega⟩

/-- an array of four bytes, by value -/
theorem openBytes4 {t e : TypeId} {v : Value} {d : DataW H} {ps : List MemPlace} (ht : P.underlying t = some (.array 4 e)) (he : P.underlying e = some (.int .u8)) (hc : P.cellsOf e = 1) (hC : P.cellsOf t = 4)
    (hv : Value.okWide P W .any base t v) (h : DataW.Trod enc P W 0 (fun _ => true) true t v d ps) :
    ∃ m0 m1 m2 m3 : Int, v = .agg #[.int .u8 m0, .int .u8 m1, .int .u8 m2, .int .u8 m3] ∧ By [m0, m1, m2, m3] := by
  simp only [Value.okWide, ht] at hv
  obtain ⟨cs, rfl, hsz, _⟩ := hv
  obtain ⟨c0, c1, c2, c3, rfl⟩ := Joins.array4 (hsz.trans hC)
  obtain ⟨fuel, hf⟩ := h
  obtain ⟨xs, m, _, _, _, hl, hel⟩ := DataW.trod_array ht hf
  have one : ∀ (i : Nat) (hi : i < 4) (c : Value), [c0, c1, c2, c3][i]? = some c → ∃ n, c = .int .u8 n ∧ 0 ≤ n ∧ n ≤ 255 := by
    intro i hi c hci
    have h1 := hel i hi
    rw [hc, Nat.mul_one] at h1
    have h2 : (([c0, c1, c2, c3] : List Value).drop i).take 1 = [c] := by
      match i, hi, hci with
      | 0, _, hci => simp at hci; subst hci; rfl
      | 1, _, hci => simp at hci; subst hci; rfl
      | 2, _, hci => simp at hci; subst hci; rfl
      | 3, _, hci => simp at hci; subst hci; rfl
    have h3 : DataW.trod enc P W 0 (fun _ => true) true m e [c] = xs[i]? := by rw [← h2]; exact h1
    rw [List.getElem?_eq_getElem (by omega)] at h3
    obtain ⟨n, hn, _, hw⟩ := DataW.trod_int he h3
    simp at hn
    exact ⟨n, hn, bounds_u8 hw⟩
  obtain ⟨m0, rfl, h0⟩ := one 0 (by decide) c0 rfl
  obtain ⟨m1, rfl, h1⟩ := one 1 (by decide) c1 rfl
  obtain ⟨m2, rfl, h2⟩ := one 2 (by decide) c2 rfl
  obtain ⟨m3, rfl, h3⟩ := one 3 (by decide) c3 rfl
  refine ⟨m0, m1, m2, m3, rfl, By_of _ fun x hx => ?_⟩
  simp only [List.mem_cons, List.not_mem_nil, or_false] at hx
  rcases hx with rfl | rfl | rfl | rfl
  · exact h0
  · exact h1
  · exact h2
  · exact h3
end
end Go.Proofs.YtfinaikgikifcaaDoor.shapes
/- A slice of structs of three whole numbers and a slice of bytes: a script, opened. -/
namespace Go.Proofs.YtfinaikgikifcaaDoor.vops
open Go.ChangeShapes Go.WideShapes Go.ChangeAt Go.RowKit Go.Proofs.YtfinaikgikifcaaDoorW.PrintWords Go.Proofs.YtfinaikgikifcaaDoor.base Go.Proofs.YtfinaikgikifcaaDoor.mem

/-- a call of a script -/
structure O where
  kd : Int
  n : Int
  k : Int
  A : Option Addr
  m : Nat
  c : Nat
  ys : List Int
def nilO : O := ⟨0, 0, 0, none, 0, 0, []⟩
/-- its bounds -/
structure O.I (o : O) : Prop where
  kd : -9223372036854775808 ≤ o.kd ∧ o.kd ≤ 9223372036854775807
  n : -9223372036854775808 ≤ o.n ∧ o.n ≤ 9223372036854775807
  k : -9223372036854775808 ≤ o.k ∧ o.k ≤ 9223372036854775807
  c : o.m ≤ o.c
  z : o.m ≤ 140737488351232
/-- four cells behind a place -/
def At (w : World) (b p : Nat) (o : O) : Prop := w.cell? ⟨b, p, none⟩ = some (.int .i64 o.kd) ∧ w.cell? ⟨b, p + 1, none⟩ = some (.int .i64 o.n) ∧ w.cell? ⟨b, p + 2, none⟩ = some (.int .i64 o.k) ∧ w.cell? ⟨b, p + 3, none⟩ = some (.slice o.A o.m o.c)
theorem At.below {w w1 : World} {b p : Nat} {o : O} (h : At w b p o) (hb : Below w.heap.size w w1) : At w1 b p o :=
  ⟨pw_cell_below hb h.1, pw_cell_below hb h.2.1, pw_cell_below hb h.2.2.1, pw_cell_below hb h.2.2.2⟩
structure RdO (w : World) (A : Option Addr) (n : Nat) (os : List O) : Prop where
  len : os.length = n
  max : n ≤ 9223372036854775807
  at_ : 0 < n → ∃ b off, A = some ⟨b, off, none⟩ ∧ ∀ j, j < n → At w b (off + j * 4) (os.getD j nilO)
  rd : ∀ o ∈ os, RdB w o.A o.m o.ys
  ok : ∀ o ∈ os, o.I
theorem RdO.below {w w1 : World} {A : Option Addr} {n : Nat} {os : List O} (h : RdO w A n os) (hb : Below w.heap.size w w1) : RdO w1 A n os :=
  ⟨h.len, h.max, fun hn => by
    obtain ⟨b, off, e, hc⟩ := h.at_ hn
    exact ⟨b, off, e, fun j hj => (hc j hj).below hb⟩, fun o ho => (h.rd o ho).below hb, h.ok⟩
theorem take_snocO (os : List O) (k : Nat) (h : k < os.length) : os.take (k + 1) = os.take k ++ [os.getD k nilO] := by
  rw [List.take_add_one, List.getD_eq_getElem?_getD, List.getElem?_eq_getElem h]; rfl
theorem getD_memO (os : List O) (k : Nat) (h : k < os.length) : os.getD k nilO ∈ os := by
  rw [List.getD_eq_getElem?_getD, List.getElem?_eq_getElem h]; simp
def sumB (os : List O) : Nat := (os.map fun o => o.ys.length).sum
theorem sumB_snoc (os : List O) (o : O) : sumB (os ++ [o]) = sumB os + o.ys.length := by simp [sumB]
theorem sumB_take (os : List O) (k : Nat) : sumB (os.take k) ≤ sumB os := by
  induction os generalizing k with
  | nil => simp [sumB]
  | cons o os ih =>
    cases k with
    | zero => simp [sumB]
    | succ k => have := ih k; simp [sumB] at *; omega
theorem sumB_mem (os : List O) {o : O} (h : o ∈ os) : o.ys.length ≤ sumB os := by
  induction os with
  | nil => cases h
  | cons x os ih =>
    rcases List.mem_cons.1 h with rfl | h
    · simp [sumB]
    · have := ih h; simp [sumB] at *; omega
section
variable {H : Type} {enc : TypeId × Value → H} {P : Program} {W : World} {base : Nat}
theorem weights_all {l : List (DataW H)} {d : DataW H} {e : TypeId} (h : d ∈ l) {n : Nat} (hn : n ∈ d.weights P e) : n ∈ DataW.weightsAll P e l := by
  induction l with
  | nil => cases h
  | cons x l ih =>
    rw [DataW.weightsAll, List.mem_append]
    rcases List.mem_cons.1 h with rfl | h
    · exact .inl hn
    · exact .inr (ih h)
theorem openVOps {t e ti ts tb : TypeId} {f0 f1 f2 f3 : Field} {v : Value} {d : DataW H} {ps : List MemPlace} (ht : P.underlying t = some (.slice e)) (he : P.underlying e = some (.struct #[f0, f1, f2, f3])) (hi : P.underlying ti = some (.int .i64)) (hs : P.underlying ts = some (.slice tb)) (hb : P.underlying tb = some (.int .u8)) (ci : P.cellsOf ti = 1) (cs1 : P.cellsOf ts = 1) (cb : P.cellsOf tb = 1) (hC : P.cellsOf e = 4) (hB : P.bytesOf tb = 1)
    (hT : [f0, f1, f2, f3].map (fun f => (f.type, f.offset)) = [(ti, 0), (ti, 1), (ti, 2), (ts, 3)])
    (hv : Value.okWide P W .any base t v) (hz : ∀ n ∈ d.weights P t, n ≤ reachBytes) (h : DataW.Trod enc P W 0 (fun _ => true) true t v d ps) :
    ∃ (A : Option Addr) (n c : Nat) (os : List O), v = .slice A n c ∧ n ≤ c ∧ RdO W A n os := by
  obtain ⟨A, n, c, rfl⟩ := okWide_slice ht hv
  obtain ⟨fuel, hf⟩ := h
  have hT' := hT
  simp only [List.map_cons, List.map_nil, List.cons.injEq, Prod.mk.injEq, and_true] at hT
  obtain ⟨⟨t0, o0⟩, ⟨t1, o1⟩, ⟨t2, o2⟩, t3, o3⟩ := hT
  rcases Deep.open_slice ht hf with ⟨hcs, hx⟩ | ⟨a, l, cap, m, fu, D, Pl, hcs, _, hl, hm, hmm, hx0, hx⟩
  · simp [Value.cells] at hcs
    obtain ⟨rfl, rfl, rfl⟩ := hcs
    exact ⟨none, 0, 0, [], rfl, Nat.le_refl _, ⟨rfl, by omega, fun h => absurd h (by omega), by simp, by simp⟩⟩
  · simp [Value.cells] at hcs
    obtain ⟨rfl, rfl, rfl⟩ := hcs
    unfold maxLen at hm
    simp at hmm
    subst hmm
    have hwt : ∀ j, j < n → ∀ q ∈ (D j).weights P e, q ≤ reachBytes := fun j hj q hq => by
      refine hz q ?_
      rw [(Prod.mk.inj hx0).1]
      simp only [DataW.weights, ht]
      exact List.mem_cons_of_mem _ (List.mem_append_left _ (weights_all (List.mem_map.2 ⟨j, by simpa using hj, rfl⟩) hq))
    have one : ∀ j, j < n → ∃ o : O, (W.cell? (a.add (j * 4)) = some (.int .i64 o.kd) ∧ W.cell? (a.add (j * 4 + 1)) = some (.int .i64 o.n) ∧ W.cell? (a.add (j * 4 + 2)) = some (.int .i64 o.k) ∧ W.cell? (a.add (j * 4 + 3)) = some (.slice o.A o.m o.c)) ∧ RdB W o.A o.m o.ys ∧ o.I := by
      intro j hj
      obtain ⟨cs', h1, h2⟩ := hx j (by omega)
      rw [hC] at h1
      obtain ⟨_, hlen, hcell⟩ := World.cells?_some h1
      obtain ⟨xs, k, hk, hxy, _, hxl, hel⟩ := DataW.trod_struct he h2
      match xs, hxl, cs', hlen with
      | [y0, y1, y2, y3], _, [c0, c1, c2, c3], _ =>
        have hD : D j = .agg [y0.1, y1.1, y2.1, y3.1] := (Prod.mk.inj hxy).1
        have hw3 : ∀ q ∈ (y3.1).weights P ts, q ≤ reachBytes := fun q hq => by
          refine hwt j hj q ?_
          rw [hD]
          simp only [DataW.weights, he, List.map_cons, List.map_nil, DataW.weightsEach, t0, t1, t2, t3]
          simp [hq]
        have onei : ∀ (c : Value) (y : DataW H × List MemPlace), DataW.trod enc P W 0 (fun _ => true) true k ti [c] = some y → ∃ n, c = .int .i64 n ∧ -9223372036854775808 ≤ n ∧ n ≤ 9223372036854775807 := by
          intro c y h3
          obtain ⟨n, hn, _, hw⟩ := DataW.trod_int hi h3
          simp at hn
          exact ⟨n, hn, bounds_i64 hw⟩
        have ones : ∀ (c : Value) (y : DataW H × List MemPlace), (∀ q ∈ (y.1).weights P ts, q ≤ reachBytes) → DataW.trod enc P W 0 (fun _ => true) true k ts [c] = some y → ∃ (A : Option Addr) (m cc : Nat) (ys : List Int), c = .slice A m cc ∧ m ≤ cc ∧ RdB W A m ys ∧ m ≤ 140737488351232 := by
          intro c y hq h3
          rcases open_ints hs hb cb h3 with ⟨hcs, hx⟩ | ⟨x, l, c', zs, hcs, _, hl, hm, hz, hx, hcell, hwz⟩
          · simp at hcs
            subst hcs
            exact ⟨none, 0, 0, [], rfl, Nat.le_refl _, ⟨⟨rfl, by omega, fun h => absurd h (by omega)⟩, By_of _ (by simp)⟩, by omega⟩
          · simp at hcs
            subst hcs
            simp at hz
            unfold maxLen at hm
            refine ⟨some x, l, c', zs.take l, rfl, hl, ⟨⟨by rw [List.length_take]; omega, by omega, fun h0 => ⟨x, rfl, fun j hj => ?_⟩⟩, By_of _ fun y hy => bounds_u8 (hwz y (List.mem_of_mem_take hy))⟩, ?_⟩
            · rw [hcell j (by omega)]
              simp [List.getD_eq_getElem?_getD, List.getElem?_take, hj]
            · have := hq (((lits (H := H) .u8 (zs.take l)).length + (lits (H := H) .u8 (zs.drop l)).length) * P.bytesOf tb) (by
                rw [(Prod.mk.inj hx).1]
                simp only [DataW.weights, hs]
                exact List.mem_cons_self)
              rw [hB] at this
              have hr : reachBytes = 140737488351232 := rfl
              rw [hr] at this
              simp [lits] at this
              omega
        have g0 := hel 0 f0 rfl
        have g1 := hel 1 f1 rfl
        have g2 := hel 2 f2 rfl
        have g3 := hel 3 f3 rfl
        simp [t0, t1, t2, t3, o0, o1, o2, o3, ci, cs1] at g0 g1 g2 g3
        obtain ⟨n0, rfl, b0⟩ := onei _ _ g0
        obtain ⟨n1, rfl, b1⟩ := onei _ _ g1
        obtain ⟨n2, rfl, b2⟩ := onei _ _ g2
        obtain ⟨A3, m3, c3, ys3, rfl, b3, r3, z3⟩ := ones _ _ hw3 g3
        have e0 := hcell 0 (by omega)
        have e1 := hcell 1 (by omega)
        have e2 := hcell 2 (by omega)
        have e3 := hcell 3 (by omega)
        rw [Deep.add_add] at e0 e1 e2 e3
        exact ⟨⟨n0, n1, n2, A3, m3, c3, ys3⟩, ⟨by simpa using e0, by simpa using e1, by simpa using e2, by simpa using e3⟩, r3, ⟨b0, b1, b2, b3, z3⟩⟩
    haveI : Inhabited O := ⟨nilO⟩
    obtain ⟨q, hq⟩ := Deep.choose_lt one
    have hgd : ∀ j, j < n → ((List.range n).map q).getD j nilO = q j := fun j hj => by simp [List.getD_eq_getElem?_getD, hj]
    refine ⟨some a, n, m, (List.range n).map q, rfl, hl, ⟨by simp, by omega, fun h0 => ?_, fun o ho => ?_, fun o ho => ?_⟩⟩
    · have hs : a.spot = none := by
        have := World.cell?_spot (hq 0 h0).1.1
        simpa [Addr.add] using this
      obtain ⟨b, off, sp⟩ := a
      subst hs
      have ap : ∀ k, (⟨b, off, none⟩ : Addr).add k = ⟨b, off + k, none⟩ := fun k => by unfold Addr.add; split <;> simp_all
      refine ⟨b, off, rfl, fun j hj => ?_⟩
      rw [hgd j hj]
      obtain ⟨g0, g1, g2, g3⟩ := (hq j hj).1
      rw [ap] at g0 g1 g2 g3
      exact ⟨g0, by simpa [Nat.add_assoc] using g1, by simpa [Nat.add_assoc] using g2, by simpa [Nat.add_assoc] using g3⟩
    · simp at ho
      obtain ⟨j, hj, rfl⟩ := ho
      exact (hq j hj).2.1
    · simp at ho
      obtain ⟨j, hj, rfl⟩ := ho
      exact (hq j hj).2.2
end
end Go.Proofs.YtfinaikgikifcaaDoor.vops
/- What the laws' heavy computes of a script. -/
namespace Go.Proofs.YtfinaikgikifcaaDoor.vaulth
open Go.RowKit Go.Shelf Go.Proofs.YtfinaikgikifcaaDoorW.PrintWords Go.Proofs.YtfinaikgikifcaaDoor.base Go.Proofs.YtfinaikgikifcaaDoor.mem Go.Proofs.YtfinaikgikifcaaDoor.keep Go.Proofs.YtfinaikgikifcaaDoor.vops

set_option maxHeartbeats 1000000 in
theorem heavy_any (A : Option Addr) (n c : Nat) (A' : Option Addr) (n' c' : Nat) (A'' : Option Addr) (k c'' : Nat) (os : List O) (w : World) (hn : n ≤ 140737488351232) (hn' : n' ≤ 140737488351232) (ho : RdO w A'' k os) :
    Calls Tryd.prog 9 #[.slice A n c, .slice A' n' c', .slice A'' k c''] w fun e w' => e = .returned (.bool (decide (2097152 < n + n' + sumB os ∨ 1024 < k))) ∧ Below w.heap.size w w' := by
  have HO := Lib.hid ho
  have hlen := ho.len
  have hmax := ho.max
  clear ho
  go_enter Tryd.func9, Tryd.ntmps9
  go_wp2
  go_loopw [7, 17] (fun s i wr => ∃ j : Nat, j ≤ k ∧ i = .int .i64 j ∧ s = .int .i64 ((n + n' + sumB (os.take j) : Nat) : Int) ∧ (0 < j → n + n' + sumB (os.take j) ≤ 2097152) ∧ Aside0 (Below w.heap.size w wr)) (fun _ i _ => k - (intOf i).toNat)
  case atStart => exact ⟨0, by omega, rfl, by simp [sumB], fun h => absurd h (by omega), ⟨Below.refl _ _⟩⟩
  case round =>
    obtain ⟨j, hj, rfl, rfl, hsm, HB⟩ := hrel
    have hs := HB.out.size
    by_cases hlt : j < k
    · have HO' := Lib.hid (HO.out.below HB.out)
      obtain ⟨b, off, rfl, hat⟩ := HO'.out.at_ (by omega)
      obtain ⟨e0, e1, e2, e3⟩ := hat j hlt
      have hmem := getD_memO os j (by omega)
      have hI := HO.out.ok _ hmem
      have hrd := HO.out.rd _ hmem
      have HT := Lib.hid (take_snocO os j (by omega))
      have HS := Lib.hid (sumB_snoc (os.take j) (os.getD j nilO))
      have hsb := sumB_mem os hmem
      have hst := sumB_take os (j + 1)
      rw [HT.out, HS.out] at hst
      have hz := hI.z
      have hl := hrd.len
      clear hat hmem hI hrd
      have hbnd : n + n' + sumB (os.take j) ≤ 281474976702464 := by
        rcases Nat.eq_zero_or_pos j with h0 | h0
        · subst h0
          rw [List.take_zero]
          show n + n' + 0 ≤ _
          omega
        · have := hsm h0
          omega
      generalize os.getD j nilO = o at *
      obtain ⟨kd, on, ok, oA, om, oc, ys⟩ := o
      dsimp only at *
      have HB2 := Lib.hid (HB.out.alloc hs (.cells #[.int .i64 kd, .int .i64 on, .int .i64 ok, .slice oA om oc] 41))
      have c3 : (wr.alloc (.cells #[.int .i64 kd, .int .i64 on, .int .i64 ok, .slice oA om oc] 41)).cell? ⟨wr.heap.size, 3, none⟩ = some (.slice oA om oc) := by simp
      generalize hsj : sumB (os.take j) = sj at *
      have HSJ := Lib.hid hsj
      clear hsj hsm
      have e4 : (((n + n' + sj : Nat) : Int)) = (n : Int) + (n' : Int) + (sj : Int) := by omega
      by_cases hbig : 2097152 < n + n' + sj + om
      · have hd : decide (2097152 < n + n' + sumB os ∨ 1024 < k) = true := decide_eq_true (.inl (by omega))
        have HD := Lib.hid hd
        clear hd
        go_wp2
        go_ret
        exact ⟨congrArg (fun b => Ending.returned (Value.bool b)) HD.out.symm, HB2.out⟩
      · go_wp2
        go_roundw
        case rel => exact ⟨j + 1, by omega, by go_num, by rw [HT.out, HS.out]; show Value.int .i64 _ = Value.int .i64 ((n + n' + (sj + ys.length) : Nat) : Int); rw [hl]; congr 1; omega, fun _ => by rw [HT.out, HS.out]; show n + n' + (sj + ys.length) ≤ _; omega, ⟨HB2.out⟩⟩
        case measure => simp [intOf]; omega
    · clear HO
      obtain rfl : j = k := by omega
      have ht : os.take j = os := List.take_of_length_le (by omega)
      rw [ht]
      by_cases hbig : 2097152 < n + n' + sumB os
      · have HD : Hid (decide (2097152 < n + n' + sumB os ∨ 1024 < j) = true) := Lib.hid (decide_eq_true (.inl hbig))
        have d1 : decide ((2097152 : Int) < (n : Int) + (n' : Int) + (sumB os : Int)) = true := decide_eq_true (by omega)
        go_wp2
        go_ret
        exact ⟨congrArg (fun b => Ending.returned (Value.bool b)) HD.out.symm, HB.out⟩
      · by_cases hlong : 1024 < j
        · have HD : Hid (decide (2097152 < n + n' + sumB os ∨ 1024 < j) = true) := Lib.hid (decide_eq_true (.inr hlong))
          have d1 : decide ((2097152 : Int) < (n : Int) + (n' : Int) + (sumB os : Int)) = false := decide_eq_false (by omega)
          have d2 : decide ((1024 : Int) < (j : Int)) = true := decide_eq_true (by omega)
          go_wp2
          go_ret
          exact ⟨congrArg (fun b => Ending.returned (Value.bool b)) HD.out.symm, HB.out⟩
        · have HD : Hid (decide (2097152 < n + n' + sumB os ∨ 1024 < j) = false) := Lib.hid (decide_eq_false (by omega))
          have d1 : decide ((2097152 : Int) < (n : Int) + (n' : Int) + (sumB os : Int)) = false := decide_eq_false (by omega)
          have d2 : decide ((1024 : Int) < (j : Int)) = false := decide_eq_false (by omega)
          go_wp2
          go_ret
          exact ⟨congrArg (fun b => Ending.returned (Value.bool b)) HD.out.symm, HB.out⟩
end Go.Proofs.YtfinaikgikifcaaDoor.vaulth
/- A snapshot and records of the law's own, beside a disk and a vault. -/
namespace Go.Proofs.YtfinaikgikifcaaDoor.vaultr
open Go.RowKit Go.Shelf Go.Proofs.YtfinaikgikifcaaDoorW.PrintWords Go.Proofs.YtfinaikgikifcaaDoor.base Go.Proofs.YtfinaikgikifcaaDoor.mem Go.Proofs.YtfinaikgikifcaaDoor.keep Go.Proofs.YtfinaikgikifcaaDoor.samew Go.Proofs.YtfinaikgikifcaaDoor.frameit Go.Proofs.YtfinaikgikifcaaDoor.framea Go.Proofs.YtfinaikgikifcaaDoor.framer Go.Proofs.YtfinaikgikifcaaDoor.framek Go.Proofs.YtfinaikgikifcaaDoor.vaulto

/-- a slice of bytes in a block of bytes of the set -/
structure SnapT (P : Nat → Prop) (W : World) (A : Option Addr) (n c : Nat) (xs : List Int) : Prop where
  rd : RdB W A n xs
  lies : 0 < n → ∃ (g : Nat) (cur : Array Value) (fr : Nat × Nat), A = some ⟨g, 0, none⟩ ∧ W.heap[g]? = some (.cells cur 5 fr) ∧ P g
/-- slices of bytes of the law's own, each in a block of its own -/
structure RecT (P : Nat → Prop) (W : World) (base : Nat) (A : Option Addr) (n c : Nat) (cells : List Value) (xss : List (List Int)) : Prop where
  rows : OwV W base A n c cells
  head : ∀ j, (Value.slice A n c).ownBlock = some j → P j
  each : Rws W base cells xss
  lies : ∀ (i j : Nat) (a : Option Addr) (n c : Nat), cells[i]? = some (Value.slice a n c) → (Value.slice a n c).ownBlock = some j → P j
section
variable {P Q : Nat → Prop} {W W1 : World} {base n c : Nat} {A : Option Addr} {xs : List Int} {cells : List Value} {xss : List (List Int)}
theorem SnapT.blocks (h : SnapT P W A n c xs) (hb : ∀ g cur fr, W.heap[g]? = some (.cells cur 5 fr) → P g → W1.heap[g]? = W.heap[g]?) : SnapT P W1 A n c xs := by
  refine ⟨⟨⟨h.rd.1.1, h.rd.1.2.1, fun hn => ?_⟩, h.rd.2⟩, fun hn => ?_⟩
  · obtain ⟨g, cur, fr, rfl, h1, h2⟩ := h.lies hn
    obtain ⟨ad, ha, hc⟩ := h.rd.1.2.2 hn
    cases ha
    refine ⟨_, rfl, fun j hj => ?_⟩
    rw [← hc j hj]
    have e : ((⟨g, 0, none⟩ : Addr).add j).block = g := by rw [add_plain]
    exact World.cell?_of_block (by rw [e]; exact hb g cur fr h1 h2)
  · obtain ⟨g, cur, fr, e, h1, h2⟩ := h.lies hn
    exact ⟨g, cur, fr, e, by rw [hb g cur fr h1 h2]; exact h1, h2⟩
theorem SnapT.kp (h : SnapT P W A n c xs) (hk : Kp P W W1) : SnapT P W1 A n c xs := h.blocks fun g cur fr h1 h2 => hk.2 g h2 (Array.getElem?_eq_some_iff.1 h1).1
theorem SnapT.below (h : SnapT P W A n c xs) (hb : Below W.heap.size W W1) : SnapT P W1 A n c xs := h.blocks fun g cur fr h1 _ => hb.block g (Array.getElem?_eq_some_iff.1 h1).1
theorem SnapT.mono (h : SnapT P W A n c xs) (hq : ∀ j, j < W.heap.size → P j → Q j) : SnapT Q W A n c xs := ⟨h.rd, fun hn => by
  obtain ⟨g, cur, fr, e, h1, h2⟩ := h.lies hn
  exact ⟨g, cur, fr, e, h1, hq g (Array.getElem?_eq_some_iff.1 h1).1 h2⟩⟩
theorem SnapT.own (h : OwB W base A n c xs) (hp : ∀ j, base ≤ j → j < W.heap.size → P j) : SnapT P W A n c xs := ⟨h.rd, fun hn => by
  rcases h.1.2 with ⟨hv, h0⟩ | ⟨g, cap, cur, hv, h1, h2, h3⟩
  · omega
  · injection hv with e _ _
    exact ⟨g, cur, (0, 0), e, h2, hp g h1 (Array.getElem?_eq_some_iff.1 h2).1⟩⟩
theorem SnapT.lit (W : World) (fr : Nat × Nat) (xs : List Int) (h : xs.length ≤ 9223372036854775807) (hb : By xs) (hp : P W.heap.size) : SnapT P (W.alloc (.cells (nums .u8 xs).toArray 5 fr)) (some ⟨W.heap.size, 0, none⟩) xs.length xs.length xs :=
  ⟨litB W fr xs h hb, fun _ => ⟨_, _, fr, rfl, World.alloc_heap_new W _, hp⟩⟩
/-- a block of another type is turned -/
theorem SnapT.other (h : SnapT P W A n c xs) {B : Option Addr} {m e b : Nat} {cs : List Value} (ho : OwV W b B m e cs) (hg : W.grownBy W1 (Value.slice B m e).ownBlock) : SnapT P W1 A n c xs :=
  h.blocks fun g cur fr h1 _ => hg.block g (Array.getElem?_eq_some_iff.1 h1).1 (fun e => by
    rcases ho.2 with ⟨hv, _⟩ | ⟨g', cap, cur', hv, _, hgb, _⟩
    · rw [hv] at e; cases e
    · rw [hv] at e
      obtain rfl : g = g' := by simpa [Value.ownBlock] using e
      rw [h1] at hgb
      injection hgb with hgb
      injection hgb with _ e2 _
      revert e2
      decide)
theorem RecT.nil (P : Nat → Prop) (W : World) (base : Nat) : RecT P W base none 0 0 [] [] := ⟨OwV.nil _ _, (fun j hj => by cases hj), Rws.nil _ _, (fun i j a n c hi => by simp at hi)⟩
theorem RecT.kp (h : RecT P W base A n c cells xss) (hk : Kp P W W1) : RecT P W1 base A n c cells xss := by
  refine ⟨ownV_kp h.rows hk h.head, h.head, ⟨h.each.len, fun j hj => ?_, h.each.apart⟩, h.lies⟩
  obtain ⟨a, m', c', e', ho⟩ := h.each.at_ j hj
  exact ⟨a, m', c', e', own_kp ho hk fun i hi => h.lies j i a m' c' e' hi⟩
theorem RecT.below (h : RecT P W base A n c cells xss) (hb : Below W.heap.size W W1) : RecT P W1 base A n c cells xss :=
  ⟨OwV.below h.rows hb, h.head, h.each.map fun _ _ _ _ ho => ho.below hb, h.lies⟩
theorem RecT.mono (h : RecT P W base A n c cells xss) (hq : ∀ j, j < W.heap.size → P j → Q j) : RecT Q W base A n c cells xss :=
  ⟨h.rows, fun j hj => hq j (OwV.blk h.rows j hj).2 (h.head j hj), h.each, fun i j a n c hi hj => by
    obtain ⟨a', m', c', e', ho⟩ := h.each.at_ i (by rw [← h.each.len]; exact (List.getElem?_eq_some_iff.1 hi).1)
    have e2 := e'
    rw [hi] at e2
    cases e2
    exact hq j (OwB.blk ho j hj).2 (h.lies i j _ _ _ hi hj)⟩
theorem SnapT.step (h : SnapT P W A n c xs) (hk : Kp P W W1) (hq : ∀ j, j < W.heap.size → P j → Q j) : SnapT Q W1 A n c xs :=
  ((h.mono (Q := fun j => P j ∧ j < W.heap.size) fun j hj hp => ⟨hp, hj⟩).kp (hk.mono fun _ _ h => h.1)).mono fun j _ h => hq j h.2 h.1
theorem RecT.step (h : RecT P W base A n c cells xss) (hk : Kp P W W1) (hq : ∀ j, j < W.heap.size → P j → Q j) : RecT Q W1 base A n c cells xss :=
  ((h.mono (Q := fun j => P j ∧ j < W.heap.size) fun j hj hp => ⟨hp, hj⟩).kp (hk.mono fun _ _ h => h.1)).mono fun j _ h => hq j h.2 h.1
theorem RecT.rd (h : RecT P W base A n c cells xss) (hn : n ≤ 9223372036854775807) : RdBB W A n xss := OwV.rd h.rows h.each.of hn
theorem RecT.len (h : RecT P W base A n c cells xss) : n = xss.length := by rw [← h.each.len]; exact (OwV.len h.rows).symm
/-- a record more -/
theorem RecT.snoc {W0 W2 : World} (h0 : RecT P W0 base A n c cells xss) (h : RecT P W base A n c cells xss) {B a : Option Addr} {b m e m2 e2 : Nat} {ys : List Int} (hy : OwB W b a m e ys) (hb : base ≤ b) (hB : W0.heap.size ≤ b)
    (ho : OwV W2 base B m2 e2 (cells ++ [.slice a m e])) (hg : W.grownBy W2 (Value.slice A n c).ownBlock) (hob : ∀ j, (Value.slice B m2 e2).ownBlock = some j → (Value.slice A n c).ownBlock = some j ∨ W.heap.size ≤ j) (hp : ∀ j, b ≤ j → P j) (hWb : b ≤ W.heap.size) :
    RecT P W2 base B m2 e2 (cells ++ [.slice a m e]) (xss ++ [ys]) := by
  have hk : ∀ a m c ys b, OwB W b a m c ys → OwB W2 b a m c ys := fun a m c ys b hx => OwB.keptT hx hg (OwV.row h.rows)
  refine ⟨ho, fun j hj => ?_, Rws.snoc h0.each (h.each.map fun a m c ys hx => hk a m c ys _ hx) hB hb (hk _ _ _ _ _ hy), fun i j a' n' c' hi hj => ?_⟩
  · rcases hob j hj with h1 | h1
    · exact h.head j h1
    · exact hp j (by omega)
  · rcases Nat.lt_or_ge i cells.length with hl | hl
    · rw [List.getElem?_append_left hl] at hi
      exact h.lies i j a' n' c' hi hj
    · rw [List.getElem?_append_right hl] at hi
      have : i - cells.length = 0 := by
        have := (List.getElem?_eq_some_iff.1 hi).1
        simp at this
        omega
      rw [this] at hi
      simp at hi
      obtain ⟨rfl, rfl, rfl⟩ := hi
      exact hp j (OwB.blk hy j hj).1
end
section
variable {ops : Array Oper} {rest : List Oper} {o : Oper} {a : Act} {Q : Exit → Act → World → Prop}
/-- append of one slice, told of where it lies: behind 'at_builtin' -/
theorem appVH {w0 W : World} {base : Nat} (hgd : o.guard = none) (s x : Operand)
    (ho : o.op = .call { callee := .builtin .append, args := #[s, x], argTypes := #[28, 28] })
    {A : Option Addr} {n c : Nat} {cells : List Value} {A' : Option Addr} {m c' : Nat} (hs : a.eval s = .slice A n c) (hx : a.eval x = .slice (some ⟨W.heap.size, 0, none⟩) 1 1)
    (HO : OwV W base A n c cells) (HB : Below base w0 W) (hbase : base ≤ W.heap.size) (hl : (n + 1) * 24 ≤ 140737488355328)
    (h : ∀ A1 n1 c1 w1, OwV w1 base A1 n1 c1 (cells ++ [.slice A' m c']) → Below base w0 w1 → W.grownBy w1 (Value.slice A n c).ownBlock → (∀ j, (Value.slice A1 n1 c1).ownBlock = some j → (Value.slice A n c).ownBlock = some j ∨ W.heap.size ≤ j) → wpList Tryd.prog ops Q rest (a.put o.dst (.slice A1 n1 c1)) w1) : wpList Tryd.prog ops Q (o :: rest) a (W.alloc (.cells #[.slice A' m c'] 22)) := by
  refine print_append base hgd s x 28 22 (.slice none 0 0) 24 ho Tryd.underlying28 infoS rfl (by decide) (.slice A n c) cells (.slice A' m c') hs hx rfl (by rw [HO.len]; exact HO) HB hbase (by rw [HO.len]; exact hl) ?_
  intro v1 w1 ho hb hg hob
  obtain ⟨A1, c1, rfl⟩ := own_slice ho
  refine h A1 _ c1 w1 ho hb hg (fun j hj => ?_)
  rcases hob with e | ⟨b, e, hbw⟩
  · exact .inl (e.symm.trans hj)
  · rw [e] at hj
    cases hj
    exact .inr hbw
end
end Go.Proofs.YtfinaikgikifcaaDoor.vaultr
/- The document's disk in memory. -/
namespace Go.Proofs.YtfinaikgikifcaaDoor.refr
open Go.RowKit Go.Proofs.YtfinaikgikifcaaDoorW.PrintWords Go.Proofs.YtfinaikgikifcaaDoor.base Go.Proofs.YtfinaikgikifcaaDoor.mem Go.Proofs.YtfinaikgikifcaaDoor.keep Go.Proofs.YtfinaikgikifcaaDoor.diskp Go.Proofs.YtfinaikgikifcaaDoor.diskr

/-- one's own slice, its capacity known or cut to its length -/
def OwF (w : World) (base : Nat) (x : Sl) (ys : List Int) : Prop := ∃ c2, OwB w base x.A x.n c2 ys ∧ (x.c = c2 ∨ x.c = x.n)
theorem OwF.blk {w : World} {base : Nat} {x : Sl} {ys : List Int} (h : OwF w base x ys) {g : Nat} (hg : x.own = some g) : base ≤ g ∧ g < w.heap.size := by
  obtain ⟨c2, h, _⟩ := h
  exact OwB.blk h g (own_same hg)
theorem OwF.keptN {w w' : World} {base : Nat} {x : Sl} {ys : List Int} (h : OwF w base x ys) {row : Option Nat} (hg : w.grownBy w' row) (hr : ∀ j, x.own = some j → row ≠ some j) : OwF w' base x ys := by
  obtain ⟨c2, h, e⟩ := h
  exact ⟨c2, OwB.keptN h hg (fun j hj => hr j (own_same hj)), e⟩
theorem OwF.block {w w' : World} {base : Nat} {x : Sl} {ys : List Int} (h : OwF w base x ys) (hb : ∀ g, x.own = some g → w'.heap[g]? = w.heap[g]?) : OwF w' base x ys := by
  obtain ⟨c2, h, e⟩ := h
  exact ⟨c2, OwS.block (x := ⟨x.A, x.n, c2⟩) h (fun g hg => hb g (own_same hg)), e⟩
theorem OwF.less {w : World} {base b : Nat} {x : Sl} {ys : List Int} (h : OwF w base x ys) (hb : b ≤ base) : OwF w b x ys := by
  obtain ⟨c2, h, e⟩ := h
  exact ⟨c2, OwB.less h hb, e⟩
theorem OwF.rd {w : World} {base : Nat} {x : Sl} {ys : List Int} (h : OwF w base x ys) : RdB w x.A x.n ys := by
  obtain ⟨c2, h, e⟩ := h
  exact h.rd
theorem OwF.len {w : World} {base : Nat} {x : Sl} {ys : List Int} (h : OwF w base x ys) : ys.length = x.n := by
  obtain ⟨c2, h, e⟩ := h
  exact h.len
theorem OwF.cap {w : World} {base : Nat} {x : Sl} {ys : List Int} (h : OwF w base x ys) : x.n ≤ x.c := by
  obtain ⟨c2, h, e⟩ := h
  have := h.cap
  omega
theorem OwF.of {w : World} {base n c : Nat} {A : Option Addr} {ys : List Int} (h : OwB w base A n c ys) : OwF w base ⟨A, n, c⟩ ys := ⟨c, h, .inl rfl⟩
/-- the cell of a slot -/
def pos (i : Nat) : Nat := if i = 1 then 2 else if i = 2 then 1 else i
def rcells (cs : Nat → Sl) (d : D) : Array Value := #[(cs 0).val, (cs 2).val, (cs 1).val, (cs 3).val, .bool (!d.off), .int .i64 d.n, .int .i64 d.a, .int .i64 d.k]
/-- the document's disk in block p -/
structure RAt (w : World) (base p : Nat) (cs : Nat → Sl) (d : D) : Prop where
  box : w.heap[p]? = some (.cells (rcells cs d) 51 (0, 0))
  hp : base ≤ p
  row : ∀ i, i < 4 → OwF w base (cs i) (d.b i)
  np : ∀ i, i < 4 → (cs i).own ≠ some p
  ap : ∀ i j g, i < 4 → j < 4 → (cs i).own = some g → (cs j).own = some g → i = j
section
variable {w w1 w2 : World} {base p : Nat} {cs cs1 cs2 : Nat → Sl} {d : D}
theorem RAt.plt (h : RAt w base p cs d) : p < w.heap.size := (Array.getElem?_eq_some_iff.1 h.box).1
theorem RAt.base_le (h : RAt w base p cs d) : base ≤ w.heap.size := Nat.le_trans h.hp (Nat.le_of_lt h.plt)
theorem RAt.ft (h : RAt w base p cs d) {g : Nat} (hg : Ft p cs g) : base ≤ g ∧ g < w.heap.size := by
  rcases hg with rfl | ⟨i, hi, hg⟩
  · exact ⟨h.hp, h.plt⟩
  · exact (h.row i hi).blk hg
theorem RAt.blocks (h : RAt w base p cs d) (hb : ∀ g, Ft p cs g → w1.heap[g]? = w.heap[g]?) : RAt w1 base p cs d :=
  ⟨by rw [hb p (.inl rfl)]; exact h.box, h.hp, fun i hi => (h.row i hi).block fun g hg => hb g (.inr ⟨i, hi, hg⟩), h.np, h.ap⟩
theorem RAt.below (h : RAt w base p cs d) (hb : Below w.heap.size w w1) : RAt w1 base p cs d := h.blocks fun g hg => hb.block g (h.ft hg).2
theorem RAt.kept {Q : Nat → Prop} (h : RAt w base p cs d) (hk : Kp Q w w1) (hq : ∀ g, Ft p cs g → Q g) : RAt w1 base p cs d := h.blocks fun g hg => hk.2 g (hq g hg) (h.ft hg).2
theorem RAt.less {b : Nat} (h : RAt w base p cs d) (hb : b ≤ base) : RAt w b p cs d := ⟨h.box, Nat.le_trans hb h.hp, fun i hi => OwF.less (h.row i hi) hb, h.np, h.ap⟩
theorem RAt.cell (h : RAt w base p cs d) (i : Nat) (v : Value) (hv : (rcells cs d)[i]? = some v) : w.cell? ⟨p, i, none⟩ = some v := by
  have hb := h.box
  unfold World.cell?
  rw [hb]
  exact hv
theorem RAt.free (h : RAt w base p cs d) (i : Nat) : w.frozen? ⟨p, i, none⟩ = false := by
  have hb := h.box
  unfold World.frozen?
  rw [hb]
  simp
theorem RAt.cells (h : RAt w base p cs d) : w.cell? ⟨p, 0, none⟩ = some (.slice (cs 0).A (cs 0).n (cs 0).c) ∧ w.cell? ⟨p, 2, none⟩ = some (.slice (cs 1).A (cs 1).n (cs 1).c) ∧ w.cell? ⟨p, 1, none⟩ = some (.slice (cs 2).A (cs 2).n (cs 2).c) ∧ w.cell? ⟨p, 3, none⟩ = some (.slice (cs 3).A (cs 3).n (cs 3).c) ∧ w.cell? ⟨p, 4, none⟩ = some (.bool (!d.off)) ∧ w.cell? ⟨p, 5, none⟩ = some (.int .i64 d.n) ∧ w.cell? ⟨p, 6, none⟩ = some (.int .i64 d.a) ∧ w.cell? ⟨p, 7, none⟩ = some (.int .i64 d.k) :=
  ⟨h.cell 0 _ rfl, h.cell 2 _ rfl, h.cell 1 _ rfl, h.cell 3 _ rfl, h.cell 4 _ rfl, h.cell 5 _ rfl, h.cell 6 _ rfl, h.cell 7 _ rfl⟩
theorem RAt.frees (h : RAt w base p cs d) : w.frozen? ⟨p, 0, none⟩ = false ∧ w.frozen? ⟨p, 1, none⟩ = false ∧ w.frozen? ⟨p, 2, none⟩ = false ∧ w.frozen? ⟨p, 3, none⟩ = false ∧ w.frozen? ⟨p, 4, none⟩ = false ∧ w.frozen? ⟨p, 5, none⟩ = false ∧ w.frozen? ⟨p, 6, none⟩ = false ∧ w.frozen? ⟨p, 7, none⟩ = false :=
  ⟨h.free 0, h.free 1, h.free 2, h.free 3, h.free 4, h.free 5, h.free 6, h.free 7⟩
/-- a store into a box of the disk -/
theorem rset_box (h : RAt w base p cs d) (i : Nat) (v : Value) : (w.setCell ⟨p, i, none⟩ v).heap[p]? = some (.cells ((rcells cs d).setIfInBounds i v) 51 (0, 0)) := by
  simp [World.setCell, h.box, Array.getElem?_modify]
theorem RAt.scal (h : RAt w base p cs d) (i : Nat) (v : Value) {d' : D} (hb : d'.b = d.b) (hc : (rcells cs d).setIfInBounds i v = rcells cs d') : RAt (w.setCell ⟨p, i, none⟩ v) base p cs d' := by
  refine ⟨by rw [rset_box h, hc], h.hp, fun j hj => ?_, h.np, h.ap⟩
  rw [hb]
  exact (h.row j hj).block fun g hg => Below.heap_setCell _ _ _ _ (fun e => h.np j hj (by rw [hg]; exact congrArg some e))
theorem rstep_store (h : RAt w base p cs d) (i : Nat) (v : Value) : DStep w base p cs (w.setCell ⟨p, i, none⟩ v) cs :=
  ⟨⟨by simp [World.setCell], fun g hg _ => Below.heap_setCell _ _ _ _ (fun e => hg (.inl e))⟩, fun _ hg => .inl hg, (Below.refl _ _).setCell (p := ⟨p, i, none⟩) h.hp _⟩
/-- a slot of the disk is written: what was appended to, cut, or nothing -/
theorem RAt.slot (h : RAt w base p cs d) {i : Nat} (hi : i < 4) {x : Sl} {ys : List Int} (hg : w.grownBy w1 (cs i).own) (hx : OwF w1 base x ys) (ho : ∀ g, x.own = some g → (cs i).own = some g ∨ w.heap.size ≤ g) :
    RAt (w1.setCell ⟨p, pos i, none⟩ x.val) base p (upd cs i x) (putB d i ys) ∧ DStep w base p cs (w1.setCell ⟨p, pos i, none⟩ x.val) (upd cs i x) := by
  have hp1 : w1.heap[p]? = w.heap[p]? := hg.block p h.plt (fun e => h.np i hi e.symm)
  have hxp : x.own ≠ some p := fun e => (ho p e).elim (h.np i hi) (fun e => by have := h.plt; omega)
  have hs := hg.size
  have hown : ∀ j, (upd cs i x j).own = some p → j < 4 → False := fun j e hj => by
    by_cases hji : j = i
    · subst hji; rw [upd_same] at e; exact hxp e
    · rw [upd_ne _ _ hji] at e; exact h.np j hj e
  refine ⟨⟨?_, h.hp, fun j hj => ?_, fun j hj e => hown j e hj, fun j k g hj hk e1 e2 => ?_⟩, ⟨⟨by simpa [World.setCell] using hs, fun g a b => ?_⟩, fun g hg' => ?_, ?_⟩⟩
  · have hb := h.box
    rw [← hp1] at hb
    have : (w1.setCell ⟨p, pos i, none⟩ x.val).heap[p]? = some (.cells ((rcells cs d).setIfInBounds (pos i) x.val) 51 (0, 0)) := by simp [World.setCell, hb, Array.getElem?_modify]
    rw [this]
    congr 2
    match i, hi with
    | 0, _ => rfl
    | 1, _ => rfl
    | 2, _ => rfl
    | 3, _ => rfl
  · by_cases hji : j = i
    · subst hji
      show OwF _ base (upd cs j x j) (upd d.b j ys j)
      rw [upd_same, upd_same]
      exact hx.block fun g e => Below.heap_setCell _ _ _ _ (fun e2 => hxp (by rw [e]; exact congrArg some e2))
    · show OwF _ base (upd cs i x j) (upd d.b i ys j)
      rw [upd_ne _ _ hji, upd_ne _ _ hji]
      have h1 := (h.row j hj).keptN hg fun g e e2 => hji (h.ap j i g hj hi e e2)
      exact h1.block fun g e => Below.heap_setCell _ _ _ _ (fun e2 => h.np j hj (by rw [e]; exact congrArg some e2))
  · by_cases hji : j = i <;> by_cases hki : k = i
    · omega
    · subst hji
      rw [upd_same] at e1
      rw [upd_ne _ _ hki] at e2
      rcases ho g e1 with e | e
      · exact h.ap j k g hj hk e e2
      · have := ((h.row k hk).blk e2).2
        omega
    · subst hki
      rw [upd_same] at e2
      rw [upd_ne _ _ hji] at e1
      rcases ho g e2 with e | e
      · exact h.ap j k g hj hk e1 e
      · have := ((h.row j hj).blk e1).2
        omega
    · rw [upd_ne _ _ hji] at e1
      rw [upd_ne _ _ hki] at e2
      exact h.ap j k g hj hk e1 e2
  · rw [Below.heap_setCell _ _ _ _ (show g ≠ p from fun e => a (.inl e))]
    exact hg.block g b (fun e => a (.inr ⟨i, hi, e.symm⟩))
  · rcases hg' with e | ⟨j, hj, e⟩
    · exact .inl (.inl e)
    · by_cases hji : j = i
      · subst hji
        rw [upd_same] at e
        exact (ho g e).elim (fun e => .inl (.inr ⟨j, hj, e⟩)) .inr
      · rw [upd_ne _ _ hji] at e
        exact .inl (.inr ⟨j, hj, e⟩)
  · exact ((Below.refl base w).grown hg h.base_le (fun k e => ((h.row i hi).blk e).1)).setCell (p := ⟨p, pos i, none⟩) h.hp _
/-- a slot is given what lies in no block of the disk -/
theorem RAt.slotF (h : RAt w base p cs d) {i : Nat} (hi : i < 4) {x : Sl} {ys : List Int} (hx : OwF w base x ys) (ho : ∀ g, x.own = some g → ¬ Ft p cs g) :
    RAt (w.setCell ⟨p, pos i, none⟩ x.val) base p (upd cs i x) (putB d i ys) := by
  have hxp : x.own ≠ some p := fun e => ho p e (.inl rfl)
  refine ⟨?_, h.hp, fun j hj => ?_, fun j hj e => ?_, fun j k g hj hk e1 e2 => ?_⟩
  · rw [rset_box h]
    congr 2
    match i, hi with
    | 0, _ => rfl
    | 1, _ => rfl
    | 2, _ => rfl
    | 3, _ => rfl
  · by_cases hji : j = i
    · subst hji
      show OwF _ base (upd cs j x j) (upd d.b j ys j)
      rw [upd_same, upd_same]
      exact hx.block fun g e => Below.heap_setCell _ _ _ _ (fun e2 => hxp (by rw [e]; exact congrArg some e2))
    · show OwF _ base (upd cs i x j) (upd d.b i ys j)
      rw [upd_ne _ _ hji, upd_ne _ _ hji]
      exact (h.row j hj).block fun g e => Below.heap_setCell _ _ _ _ (fun e2 => h.np j hj (by rw [e]; exact congrArg some e2))
  · by_cases hji : j = i
    · subst hji; rw [upd_same] at e; exact hxp e
    · rw [upd_ne _ _ hji] at e; exact h.np j hj e
  · by_cases hji : j = i <;> by_cases hki : k = i
    · omega
    · subst hji
      rw [upd_same] at e1
      rw [upd_ne _ _ hki] at e2
      exact absurd (.inr ⟨k, hk, e2⟩) (ho g e1)
    · subst hki
      rw [upd_same] at e2
      rw [upd_ne _ _ hji] at e1
      exact absurd (.inr ⟨j, hj, e1⟩) (ho g e2)
    · rw [upd_ne _ _ hji] at e1
      rw [upd_ne _ _ hki] at e2
      exact h.ap j k g hj hk e1 e2

/-- a slot is given new memory -/
theorem RAt.slotN (h : RAt w base p cs d) (hb : Below w.heap.size w w1) {i : Nat} (hi : i < 4) {x : Sl} {ys : List Int} (hx : OwF w1 w.heap.size x ys) :
    RAt (w1.setCell ⟨p, pos i, none⟩ x.val) base p (upd cs i x) (putB d i ys) ∧ DStep w base p cs (w1.setCell ⟨p, pos i, none⟩ x.val) (upd cs i x) := by
  have h1 := h.below hb
  have hn : ∀ g, x.own = some g → ¬ Ft p cs g := fun g hg hf => by
    have a := (hx.blk hg).1
    have b := (h.ft hf).2
    omega
  refine ⟨h1.slotF hi (hx.less h.base_le) hn, ?_⟩
  refine ⟨⟨by simpa [World.setCell] using hb.size, fun g hg hl => ?_⟩, fun g hg => ?_, (hb.mono h.base_le).setCell (p := ⟨p, pos i, none⟩) h.hp _⟩
  · rw [Below.heap_setCell _ _ _ _ (show g ≠ p from fun e => hg (.inl e))]
    exact hb.block g hl
  · rcases hg with e | ⟨j, hj, e⟩
    · exact .inl (.inl e)
    · by_cases hji : j = i
      · subst hji
        rw [upd_same] at e
        exact .inr (hx.blk e).1
      · rw [upd_ne _ _ hji] at e
        exact .inl (.inr ⟨j, hj, e⟩)
end
def RPost (w : World) (base p : Nat) (cs : Nat → Sl) (d' : D) (w' : World) : Prop := ∃ cs', RAt w' base p cs' d' ∧ DStep w base p cs w' cs'
def RetF (w : World) (base p : Nat) (cs : Nat → Sl) (r : Value) (d' : D) (e : Ending) (w' : World) : Prop := e = .returned r ∧ RPost w base p cs d' w'
theorem RetF.from {w w1 w' : World} {base p : Nat} {cs cs1 : Nat → Sl} {r : Value} {d' : D} {e : Ending} (s : DStep w base p cs w1 cs1) (h : RetF w1 base p cs1 r d' e w') : RetF w base p cs r d' e w' := by
  obtain ⟨he, cs', h1, h2⟩ := h
  exact ⟨he, cs', h1, s.trans h2⟩
theorem RAt.drewd {w : World} {base p : Nat} {cs : Nat → Sl} {d : D} (h : RAt w base p cs d) : RAt w.drew base p cs d := h.below (Below.refl _ _).drew
end Go.Proofs.YtfinaikgikifcaaDoor.refr
/- The document's disk: its raw writes, Arm; append to its slices. -/
namespace Go.Proofs.YtfinaikgikifcaaDoor.refw
open Go.RowKit Go.Proofs.YtfinaikgikifcaaDoorW.PrintWords Go.Proofs.YtfinaikgikifcaaDoor.base Go.Proofs.YtfinaikgikifcaaDoor.mem Go.Proofs.YtfinaikgikifcaaDoor.keep Go.Proofs.YtfinaikgikifcaaDoor.diskp Go.Proofs.YtfinaikgikifcaaDoor.diskr Go.Proofs.YtfinaikgikifcaaDoor.refr

theorem run_appF {W : World} {base n c m c' : Nat} {A A' : Option Addr} {xs ys : List Int} (ty : TypeId) (HO : OwF W base ⟨A, n, c⟩ xs) (HR : RdB W A' m ys) (hbase : base ≤ W.heap.size) (hl : n + m ≤ 140737488355328) :
    ∃ A1 n1 c1 w1, (Builtin.append_ #[22, 22] ty #[.slice A n c, .slice A' m c']).run Tryd.prog W = .ok (.slice A1 n1 c1) w1 ∧ OwF w1 base ⟨A1, n1, c1⟩ (xs ++ ys) ∧ W.grownBy w1 (Value.slice A n c).ownBlock ∧ (∀ j, (Value.slice A1 n1 c1).ownBlock = some j → (Value.slice A n c).ownBlock = some j ∨ W.heap.size ≤ j) := by
  obtain ⟨c2, h, e⟩ := HO
  dsimp only at h e
  by_cases hc : c = c2
  · subst hc
    obtain ⟨A1, n1, c1, w1, h1, h2, h3, h4⟩ := run_appH (c' := c') ty h HR hbase hl
    exact ⟨A1, n1, c1, w1, h1, OwF.of h2, h3, h4⟩
  · obtain rfl : c = n := by omega
    rcases Nat.eq_zero_or_pos m with h0 | h0
    · subst h0
      obtain rfl : ys = [] := List.eq_nil_of_length_eq_zero HR.len
      obtain ⟨i0, hi, hzz⟩ := Option.map_eq_some_iff.1 infoB
      have hrun : (Builtin.append_ #[22, 22] ty #[.slice A c c, .slice A' 0 c']).run Tryd.prog W = .ok (.slice A c c) W := by
        cases A <;> cases A' <;> simp [Builtin.append_, run_underlying Tryd.underlying22, sizeOf, typeInfo, hi, Builtin.lenOf, Builtin.firstCells, storeCells, loadCells, loadCellsFrom, Result.andThen]
      exact ⟨A, c, c, W, hrun, ⟨c2, by rw [List.append_nil]; exact h, .inr rfl⟩, World.grownBy.refl W _, fun j hj => .inl hj⟩
    · obtain ⟨ad, rfl, _⟩ := HR.at_ 0 h0
      rcases A with _ | b
      · exfalso
        rcases h.1.2 with ⟨hv, _⟩ | ⟨g, cap, cur, hv, _⟩
        · injection hv with e1 e2 e3
          exact hc (by rw [e2, e3])
        · injection hv with e1
          cases e1
      · obtain ⟨i0, hi, hzz⟩ := Option.map_eq_some_iff.1 infoB
        simp only [Prod.mk.injEq] at hzz
        obtain ⟨hz0, hz1, hz2⟩ := hzz
        obtain ⟨v1, w1, hr, ho, hg⟩ := run_append_arg_grows (P := Tryd.prog) (w := W) 22 ty 5 i0 (.int .u8 0) 1 1 Tryd.underlying22 hi hz0 hz1 hz2 rfl (by decide) b c c (nums .u8 xs) (by rw [nums_length, h.len]; omega) (numsRd h.rd) ad m c' (nums .u8 ys) (by rw [nums_length, HR.len]; omega) (numsRd HR) (by omega) (by unfold maxLen; omega) (by omega)
        obtain ⟨A1, c1, rfl⟩ := own_slice ho
        have hO : OwB w1 W.heap.size A1 (c + m) c1 (xs ++ ys) := ⟨by rw [nums_append]; exact ho, h.2.append HR.2⟩
        refine ⟨A1, c + m, c1, w1, hr, OwF.of (OwB.less hO hbase), ⟨hg.os, hg.tape, hg.output, hg.size, fun k hk _ => hg.block k hk (by simp)⟩, fun j hj => .inr (OwB.blk hO j hj).1⟩
section
variable {ops : Array Oper} {o : Oper} {a : Act} {K : Act → World → Prop} {Q : Exit → Act → World → Prop} {R : Prop}
theorem stepAppF {W : World} {base : Nat} (hgd : o.guard = none) (s x : Operand)
    (ho : o.op = .call { callee := .builtin .append, args := #[s, x], argTypes := #[22, 22] })
    {A : Option Addr} {n c : Nat} {xs : List Int} {A' : Option Addr} {m c' : Nat} {ys : List Int} (hs : a.eval s = .slice A n c) (hx : a.eval x = .slice A' m c')
    (HO : OwF W base ⟨A, n, c⟩ xs) (HR : RdB W A' m ys) (hbase : base ≤ W.heap.size) (hl : n + m ≤ 140737488355328)
    (h : ∀ A1 n1 c1 w1, OwF w1 base ⟨A1, n1, c1⟩ (xs ++ ys) → W.grownBy w1 (Value.slice A n c).ownBlock → (∀ j, (Value.slice A1 n1 c1).ownBlock = some j → (Value.slice A n c).ownBlock = some j ∨ W.heap.size ≤ j) → K (a.put o.dst (.slice A1 n1 c1)) w1) :
    if Region.wanted o (yielded ops a.tmps) = true then Oper.wp Tryd.prog o a W K Q else R := by
  have hw : Region.wanted o (yielded ops a.tmps) = true := by simp [Region.wanted, hgd]
  rw [if_pos hw]
  obtain ⟨A1, n1, c1, w1, hrun, h1, h2, h3⟩ := run_appF (c' := c') o.type HO HR hbase hl
  unfold Oper.wp execOp
  simp only [ho, resolve, invoke, builtin, Sem.run_bind, Sem.run_pure, Result.andThen_ok, List.map_toArray, List.map_cons, List.map_nil, hs, hx, hrun]
  exact h A1 n1 c1 w1 h1 h2 h3
end
section
variable {w : World} {base p : Nat} {cs : Nat → Sl} {d : D}
set_option maxHeartbeats 1000000 in
theorem rraw_any (h : RAt w base p cs d) (hn : 0 ≤ d.n ∧ d.n ≤ 4611686018427387904) (ha : 0 ≤ d.a ∧ d.a ≤ 9223372036854775807) : Calls Tryd.prog 59 #[.pointer (some ⟨p, 0, none⟩)] w fun e w' => e = .returned (.bool (rawD d).2) ∧ RAt w' base p cs (rawD d).1 ∧ DStep w base p cs w' cs := by
  obtain ⟨_, _, _, _, _, e5, e6, _⟩ := h.cells
  have f5 := h.free 5
  have f6 := h.free 6
  have H := Lib.hid h
  have h5 := h.scal 5 (.int .i64 (d.n + 1)) (d' := ⟨d.b, d.off, d.n + 1, d.a, d.k⟩) rfl rfl
  have H5 := Lib.hid h5
  have S5 := Lib.hid (rstep_store h 5 (.int .i64 (d.n + 1)))
  have h6 := h5.scal 6 (.int .i64 (d.a - 1)) (d' := ⟨d.b, d.off, d.n + 1, d.a - 1, d.k⟩) rfl rfl
  have H6 := Lib.hid h6
  have S6 := Lib.hid (S5.out.trans (rstep_store h5 6 (.int .i64 (d.a - 1))))
  obtain ⟨hn0, hn1⟩ := hn
  obtain ⟨ha0, ha1⟩ := ha
  have HR0 : Hid (d.a = 0 → rawD d = (⟨d.b, d.off, d.n + 1, d.a, d.k⟩, false)) := Lib.hid fun e => if_pos e
  have HR1 : Hid (d.a ≠ 0 → rawD d = (⟨d.b, d.off, d.n + 1, d.a - 1, d.k⟩, d.a - 1 == 0)) := Lib.hid fun e => if_neg e
  clear h h5 h6
  generalize d.n = n at *
  generalize d.a = a at *
  by_cases h0 : a = 0
  · have HR := Lib.hid (HR0.out h0)
    have h0b : (a == 0) = true := by simp [h0]
    clear h0
    go_enter Tryd.func59, Tryd.ntmps59
    go_wp2
    go_ret
    exact ⟨by rw [HR.out]; rfl, by rw [HR.out]; exact H5.out, S5.out⟩
  · have HR := Lib.hid (HR1.out h0)
    have h0b : (a == 0) = false := by simp [h0]
    clear h0
    go_enter Tryd.func59, Tryd.ntmps59
    go_wp2
    go_ret
    exact ⟨by rw [HR.out]; rfl, by rw [HR.out]; exact H6.out, S6.out⟩
set_option maxHeartbeats 1000000 in
theorem rarm_any (h : RAt w base p cs d) (n k : Int) : Calls Tryd.prog 26 #[.pointer (some ⟨p, 0, none⟩), .int .i64 n, .int .i64 k] w fun e w' => e = .returned (.tuple #[]) ∧ RAt w' base p cs (armD d n k) ∧ DStep w base p cs w' cs := by
  obtain ⟨_, _, _, _, _, _, e6, e7⟩ := h.cells
  have f6 := h.free 6
  have f7 := h.free 7
  have h6 := h.scal 6 (.int .i64 n) (d' := ⟨d.b, d.off, d.n, n, d.k⟩) rfl rfl
  have s6 := rstep_store h 6 (.int .i64 n)
  have HA : Hid (armD d n k = ⟨d.b, d.off, d.n, max n 0, k⟩) := Lib.hid rfl
  by_cases h0 : n < 0
  · have h6' := h6.scal 6 (.int .i64 0) (d' := ⟨d.b, d.off, d.n, 0, d.k⟩) rfl rfl
    have s6' := s6.trans (rstep_store h6 6 (.int .i64 0))
    have H7 := Lib.hid (h6'.scal 7 (.int .i64 k) (d' := ⟨d.b, d.off, d.n, 0, k⟩) rfl rfl)
    have S7 := Lib.hid (s6'.trans (rstep_store h6' 7 (.int .i64 k)))
    have HM : Hid (max n 0 = 0) := Lib.hid (by omega)
    clear h h6 h6' s6 s6'
    go_enter Tryd.func26, Tryd.ntmps26
    go_wp2
    exact bodyPost_end (results_none rfl _ _ _) rfl ⟨rfl, by rw [HA.out, HM.out]; exact H7.out, S7.out⟩
  · have H7 := Lib.hid (h6.scal 7 (.int .i64 k) (d' := ⟨d.b, d.off, d.n, n, k⟩) rfl rfl)
    have S7 := Lib.hid (s6.trans (rstep_store h6 7 (.int .i64 k)))
    have HM : Hid (max n 0 = n) := Lib.hid (by omega)
    clear h h6 s6
    go_enter Tryd.func26, Tryd.ntmps26
    go_wp2
    exact bodyPost_end (results_none rfl _ _ _) rfl ⟨rfl, by rw [HA.out, HM.out]; exact H7.out, S7.out⟩
end
end Go.Proofs.YtfinaikgikifcaaDoor.refw
/- The document's disk: Load, All. -/
namespace Go.Proofs.YtfinaikgikifcaaDoor.refw
open Go.RowKit Go.Proofs.YtfinaikgikifcaaDoorW.PrintWords Go.Proofs.YtfinaikgikifcaaDoor.base Go.Proofs.YtfinaikgikifcaaDoor.mem Go.Proofs.YtfinaikgikifcaaDoor.keep Go.Proofs.YtfinaikgikifcaaDoor.diskp Go.Proofs.YtfinaikgikifcaaDoor.diskr Go.Proofs.YtfinaikgikifcaaDoor.refr Go.Proofs.YtfinaikgikifcaaDoor.ordt Go.Proofs.YtfinaikgikifcaaDoor.clone

def nilC : Nat → Sl := fun _ => nilS
theorem rnew_at (w : World) : RAt (w.alloc (.cells #[.slice none 0 0, .slice none 0 0, .slice none 0 0, .slice none 0 0, .bool true, .int .i64 0, .int .i64 0, .int .i64 0] 51)) w.heap.size w.heap.size nilC (diskp.load [] []) := by
  refine ⟨?_, Nat.le_refl _, fun i hi => ?_, fun i hi => (by intro e; cases e), fun i j g _ _ e => (by cases e)⟩
  · show (w.heap.push _)[w.heap.size]? = _
    rw [Array.getElem?_push_size]
    rfl
  · have : (diskp.load [] []).b i = [] := by unfold diskp.load; simp
    rw [this]
    exact OwF.of (OwB.nil _ _)
theorem load_put (xs ys : List Int) : putB (putB (diskp.load [] []) 0 xs) 2 ys = diskp.load xs ys := by
  unfold putB diskp.load
  simp only [D.mk.injEq, and_true]
  funext i
  unfold upd
  split
  · rename_i h; subst h; rfl
  · split
    · rename_i h; subst h; rfl
    · simp_all
def RetN' (w : World) (d : D) (e : Ending) (w' : World) : Prop := ∃ p cs, e = .returned (.pointer (some ⟨p, 0, none⟩)) ∧ RAt w' w.heap.size p cs d ∧ Below w.heap.size w w'
set_option maxHeartbeats 2000000 in
theorem rload_any (A : Option Addr) (n c : Nat) (xs : List Int) (A' : Option Addr) (n' c' : Nat) (ys : List Int) (w : World) (hr : RdB w A n xs) (hn : n ≤ 140737488355328) (hr' : RdB w A' n' ys) (hn' : n' ≤ 140737488355328) :
    Calls Tryd.prog 23 #[.slice A n c, .slice A' n' c'] w (RetN' w (diskp.load xs ys)) := by
  have HR := Lib.hid hr
  have HR' := Lib.hid hr'
  have HN := Lib.hid (rnew_at w)
  have HB := Lib.hid (below_alloc (Below.refl w.heap.size w) (.cells #[.slice none 0 0, .slice none 0 0, .slice none 0 0, .slice none 0 0, .bool true, .int .i64 0, .int .i64 0, .int .i64 0] 51))
  clear hr hr'
  go_enter Tryd.func23, Tryd.ntmps23
  go_wp2_with fail
  generalize w.alloc (.cells #[.slice none 0 0, .slice none 0 0, .slice none 0 0, .slice none 0 0, .bool true, .int .i64 0, .int .i64 0, .int .i64 0] 51) = wB at HN HB ⊢
  have DB := Lib.hid (Below.refl wB.heap.size wB).drew
  have RB := Lib.hid (Below.refl wB.drew.heap.size wB.drew)
  have HRB := Lib.hid (HR.out.below (HB.out.trans (DB.out.mono HB.out.size)))
  have hsB := HB.out.size
  refine begin_ (fun _ : World => True) [3, 7] (by kernel_rfl) ?_
  have hSw : True := trivial
  simp only [List.size_toArray, List.length_cons, List.length_nil, Nat.reduceAdd, Array.replicate_succ, Array.replicate_zero, List.push_toArray, List.append_toArray, List.nil_append, List.cons_append]
  refine move_a (i := 0) (v := ?_) rfl (by kernel_rfl) (by kernel_rfl) (by kernel_rfl) (fun _ _ _ h => h) (by rfl) ?_ ?_
  rotate_left
  · (intro w; go_simp; try with_reducible rfl)
  try simp only [Act.put, List.setIfInBounds_toArray, List.set_cons_zero, List.set_cons_succ]
  refine move_a (i := 2) (v := ?_) rfl (by kernel_rfl) (by kernel_rfl) (by kernel_rfl) (fun _ _ _ h => h) (by rfl) ?_ ?_
  rotate_left
  · (intro w; go_simp; try with_reducible rfl)
  try simp only [Act.put, List.setIfInBounds_toArray, List.set_cons_zero, List.set_cons_succ]
  refine move_a (i := 4) (v := ?_) rfl (by kernel_rfl) (by kernel_rfl) (by kernel_rfl) (fun _ _ _ h => h) (by rfl) ?_ ?_
  rotate_left
  · (intro w; go_simp; try with_reducible rfl)
  try simp only [Act.put, List.setIfInBounds_toArray, List.set_cons_zero, List.set_cons_succ]
  refine move_a (i := 5) (v := ?_) rfl (by kernel_rfl) (by kernel_rfl) (by kernel_rfl) (fun _ _ _ h => h) (by rfl) ?_ ?_
  rotate_left
  · (intro w; go_simp; try with_reducible rfl)
  try simp only [Act.put, List.setIfInBounds_toArray, List.set_cons_zero, List.set_cons_succ]
  refine move_e (i := 1) (by kernel_rfl) rfl (fun K hK => ?_)
  go_simp
  refine hK _ _ (fun hS => trivial) ?_
  clear hK K
  try simp only [Act.put, List.setIfInBounds_toArray, List.set_cons_zero, List.set_cons_succ]
  refine move_c (i := 3) (by kernel_rfl) rfl (by rfl) (fun K hK => ?_)
  (refine stepApp (w0 := wB.drew) (base := wB.drew.heap.size) rfl (.tmp 9) (.tmp 10) rfl rfl rfl (OwB.lit0 wB.drew _ (Nat.le_refl _)) (HRB.out.below (below_alloc (Below.refl _ _) _)) (RB.out.alloc (Nat.le_refl _) _) (by simp) (by omega) ?_; intro A1 n1 c1 w1 ho hb; rw [List.nil_append] at ho; have HO1 := Lib.hid ho; have HBl : Hid (Below wB.heap.size wB w1) := Lib.hid ((Below.refl wB.heap.size wB).drew.trans hb); have y1 : w1.cell? ⟨w.heap.size, 0, none⟩ = some (.slice none 0 0) := (HN.out.below HBl.out).cells.1; have z1 := (HN.out.below HBl.out).free 0; clear ho hb)
  refine hK _ _ ?_
  clear hK K
  try simp only [Act.put, List.setIfInBounds_toArray, List.set_cons_zero, List.set_cons_succ]
  refine move_a (i := 6) (v := ?_) rfl (by kernel_rfl) (by kernel_rfl) (by kernel_rfl) (fun _ _ _ h => h) (by rfl) ?_ ?_
  rotate_left
  · (intro w; go_simp; try with_reducible rfl)
  try simp only [Act.put, List.setIfInBounds_toArray, List.set_cons_zero, List.set_cons_succ]
  refine move_c (i := 7) (by kernel_rfl) rfl (by rfl) (fun K hK => ?_)
  go_simp
  refine hK _ _ ?_
  clear hK K
  try simp only [Act.put, List.setIfInBounds_toArray, List.set_cons_zero, List.set_cons_succ]
  refine move_d (by kernel_rfl) ?_
  have HF := Lib.hid (HN.out.slotN HBl.out (i := 0) (by omega) (OwF.of HO1.out))
  have HF1 : Hid (RAt (w1.setCell ⟨w.heap.size, 0, none⟩ (.slice A1 n1 c1)) w.heap.size w.heap.size (upd nilC 0 ⟨A1, n1, c1⟩) (putB (diskp.load [] []) 0 xs)) := Lib.hid HF.out.1
  have HB2 : Hid (Below w.heap.size w (w1.setCell ⟨w.heap.size, 0, none⟩ (.slice A1 n1 c1))) := Lib.hid (HB.out.trans HF.out.2.bel)
  clear y1 z1 HF
  generalize w1.setCell ⟨w.heap.size, 0, none⟩ (.slice A1 n1 c1) = w2 at HF1 HB2 ⊢
  have DB2 := Lib.hid (Below.refl w2.heap.size w2).drew
  have RB2 := Lib.hid (Below.refl w2.drew.heap.size w2.drew)
  have HRB2 := Lib.hid (HR'.out.below (HB2.out.trans (DB2.out.mono HB2.out.size)))
  have hs2 := HB2.out.size
  go_wp2_with fail
  refine begin_ (fun _ : World => True) [3, 7] (by kernel_rfl) ?_
  have hSw : True := trivial
  simp only [List.size_toArray, List.length_cons, List.length_nil, Nat.reduceAdd, Array.replicate_succ, Array.replicate_zero, List.push_toArray, List.append_toArray, List.nil_append, List.cons_append]
  refine move_a (i := 0) (v := ?_) rfl (by kernel_rfl) (by kernel_rfl) (by kernel_rfl) (fun _ _ _ h => h) (by rfl) ?_ ?_
  rotate_left
  · (intro w; go_simp; try with_reducible rfl)
  try simp only [Act.put, List.setIfInBounds_toArray, List.set_cons_zero, List.set_cons_succ]
  refine move_a (i := 2) (v := ?_) rfl (by kernel_rfl) (by kernel_rfl) (by kernel_rfl) (fun _ _ _ h => h) (by rfl) ?_ ?_
  rotate_left
  · (intro w; go_simp; try with_reducible rfl)
  try simp only [Act.put, List.setIfInBounds_toArray, List.set_cons_zero, List.set_cons_succ]
  refine move_a (i := 4) (v := ?_) rfl (by kernel_rfl) (by kernel_rfl) (by kernel_rfl) (fun _ _ _ h => h) (by rfl) ?_ ?_
  rotate_left
  · (intro w; go_simp; try with_reducible rfl)
  try simp only [Act.put, List.setIfInBounds_toArray, List.set_cons_zero, List.set_cons_succ]
  refine move_a (i := 5) (v := ?_) rfl (by kernel_rfl) (by kernel_rfl) (by kernel_rfl) (fun _ _ _ h => h) (by rfl) ?_ ?_
  rotate_left
  · (intro w; go_simp; try with_reducible rfl)
  try simp only [Act.put, List.setIfInBounds_toArray, List.set_cons_zero, List.set_cons_succ]
  refine move_e (i := 1) (by kernel_rfl) rfl (fun K hK => ?_)
  go_simp
  refine hK _ _ (fun hS => trivial) ?_
  clear hK K
  try simp only [Act.put, List.setIfInBounds_toArray, List.set_cons_zero, List.set_cons_succ]
  refine move_c (i := 3) (by kernel_rfl) rfl (by rfl) (fun K hK => ?_)
  (refine stepApp (w0 := w2.drew) (base := w2.drew.heap.size) rfl (.tmp 16) (.tmp 17) rfl rfl rfl (OwB.lit0 w2.drew _ (Nat.le_refl _)) (HRB2.out.below (below_alloc (Below.refl _ _) _)) (RB2.out.alloc (Nat.le_refl _) _) (by simp) (by omega) ?_; intro A3 n3 c3 w3 ho hb; rw [List.nil_append] at ho; have HO3 := Lib.hid ho; have HBm : Hid (Below w2.heap.size w2 w3) := Lib.hid ((Below.refl w2.heap.size w2).drew.trans hb); have y3 : w3.cell? ⟨w.heap.size, 1, none⟩ = some (.slice none 0 0) := (HF1.out.below HBm.out).cells.2.2.1; have z3 := (HF1.out.below HBm.out).free 1; clear ho hb)
  refine hK _ _ ?_
  clear hK K
  try simp only [Act.put, List.setIfInBounds_toArray, List.set_cons_zero, List.set_cons_succ]
  refine move_a (i := 6) (v := ?_) rfl (by kernel_rfl) (by kernel_rfl) (by kernel_rfl) (fun _ _ _ h => h) (by rfl) ?_ ?_
  rotate_left
  · (intro w; go_simp; try with_reducible rfl)
  try simp only [Act.put, List.setIfInBounds_toArray, List.set_cons_zero, List.set_cons_succ]
  refine move_c (i := 7) (by kernel_rfl) rfl (by rfl) (fun K hK => ?_)
  go_simp
  refine hK _ _ ?_
  clear hK K
  try simp only [Act.put, List.setIfInBounds_toArray, List.set_cons_zero, List.set_cons_succ]
  refine move_d (by kernel_rfl) ?_
  have HG := Lib.hid (HF1.out.slotN HBm.out (i := 2) (by omega) (OwF.of HO3.out))
  have HG1 : Hid (RAt (w3.setCell ⟨w.heap.size, 1, none⟩ (.slice A3 n3 c3)) w.heap.size w.heap.size (upd (upd nilC 0 ⟨A1, n1, c1⟩) 2 ⟨A3, n3, c3⟩) (diskp.load xs ys)) := Lib.hid (by have := HG.out.1; rw [load_put] at this; exact this)
  have HB3 : Hid (Below w.heap.size w (w3.setCell ⟨w.heap.size, 1, none⟩ (.slice A3 n3 c3))) := Lib.hid (HB2.out.trans HG.out.2.bel)
  clear y3 z3 HG
  go_wp2
  go_ret
  exact ⟨w.heap.size, _, rfl, HG1.out, HB3.out⟩
end Go.Proofs.YtfinaikgikifcaaDoor.refw
/- The document's disk: All. -/
namespace Go.Proofs.YtfinaikgikifcaaDoor.refw
open Go.RowKit Go.Proofs.YtfinaikgikifcaaDoorW.PrintWords Go.Proofs.YtfinaikgikifcaaDoor.base Go.Proofs.YtfinaikgikifcaaDoor.mem Go.Proofs.YtfinaikgikifcaaDoor.keep Go.Proofs.YtfinaikgikifcaaDoor.diskp Go.Proofs.YtfinaikgikifcaaDoor.diskr Go.Proofs.YtfinaikgikifcaaDoor.refr Go.Proofs.YtfinaikgikifcaaDoor.ordt Go.Proofs.YtfinaikgikifcaaDoor.clone Go.Proofs.YtfinaikgikifcaaDoor.diskw

theorem OwF.below {w w1 : World} {base : Nat} {x : Sl} {ys : List Int} (h : OwF w base x ys) (hb : Below w.heap.size w w1) : OwF w1 base x ys := h.block fun g hg => hb.block g (h.blk hg).2
set_option maxHeartbeats 4000000 in
theorem rall_any {w : World} {base p : Nat} {cs : Nat → Sl} {d : D} (h : RAt w base p cs d) (hs : Small d.b) (f : Nat) (hf : f < 2) :
    Calls Tryd.prog 46 #[.pointer (some ⟨p, 0, none⟩), .int .i64 f] w (RetB w (fileB d f)) := by
  obtain ⟨c0, c2, c1, c3, _, _, _, _⟩ := h.cells
  match f, hf with
  | 0, _ =>
    have e0 := c0
    have e1 := c2
    clear c0 c1 c2 c3
    have RS := Lib.hid (h.row 0 (by omega)).rd
    have RW := Lib.hid (h.row 1 (by omega)).rd
    have l0 : (cs 0).n ≤ 70368744177664 := by rw [← RS.out.len]; exact hs 0 (by omega)
    have l1 : (cs 1).n ≤ 70368744177664 := by rw [← RW.out.len]; exact hs 1 (by omega)
    have HL := Lib.hid RS.out.len
    have HF : Hid (fileB d 0 = d.b 0 ++ d.b 1) := Lib.hid rfl
    have DB := Lib.hid (Below.refl w.heap.size w).drew
    have RB := Lib.hid (Below.refl w.drew.heap.size w.drew)
    clear h hs
    generalize (cs 0).A = sA at *
    generalize (cs 0).n = sn at *
    generalize (cs 0).c = sc at *
    generalize (cs 1).A = wA at *
    generalize (cs 1).n = wn at *
    generalize (cs 1).c = wc at *
    go_enter Tryd.func46, Tryd.ntmps46
    go_wp2_with fail
    refine begin_ (fun W : World => W.cell? ⟨p, 0, none⟩ = some (.slice sA sn sc) ∧ W.cell? ⟨p, 2, none⟩ = some (.slice wA wn wc)) [] (by kernel_rfl) ?_
    have hSw : (fun W : World => W.cell? ⟨p, 0, none⟩ = some (.slice sA sn sc) ∧ W.cell? ⟨p, 2, none⟩ = some (.slice wA wn wc)) w.drew := ⟨e0, e1⟩
    simp only [List.size_toArray, List.length_cons, List.length_nil, Nat.reduceAdd, Array.replicate_succ, Array.replicate_zero, List.push_toArray, List.append_toArray, List.nil_append, List.cons_append]
    refine move_a (i := 1) (v := ?_) rfl (by kernel_rfl) (by kernel_rfl) (by kernel_rfl) (fun _ _ _ h => h) (by rfl) ?_ ?_
    rotate_left
    · (intro w; go_simp; try with_reducible rfl)
    try simp only [Act.put, List.setIfInBounds_toArray, List.set_cons_zero, List.set_cons_succ]
    refine move_a (i := 2) (v := ?_) rfl (by kernel_rfl) (by kernel_rfl) (by kernel_rfl) (fun _ _ _ h => h) (by rfl) ?_ ?_
    rotate_left
    · (intro w; go_simp; try with_reducible rfl)
    try simp only [Act.put, List.setIfInBounds_toArray, List.set_cons_zero, List.set_cons_succ]
    refine move_a (i := 3) (v := ?_) rfl (by kernel_rfl) (by kernel_rfl) (by kernel_rfl) (fun _ _ _ h => h) (by rfl) ?_ ?_
    rotate_left
    · (intro w; go_simp; try with_reducible rfl)
    try simp only [Act.put, List.setIfInBounds_toArray, List.set_cons_zero, List.set_cons_succ]
    refine move_a (i := 4) (v := ?_) rfl (by kernel_rfl) (by kernel_rfl) (by kernel_rfl) (fun _ _ _ h => h) (by rfl) ?_ ?_
    rotate_left
    · (intro w; go_simp; try with_reducible rfl)
    try simp only [Act.put, List.setIfInBounds_toArray, List.set_cons_zero, List.set_cons_succ]
    refine move_a (i := 5) (v := ?_) rfl (by kernel_rfl) (by kernel_rfl) (by kernel_rfl) (fun _ _ _ h => h) (by rfl) ?_ ?_
    rotate_left
    · (intro w; go_simp; try with_reducible rfl)
    try simp only [Act.put, List.setIfInBounds_toArray, List.set_cons_zero, List.set_cons_succ]
    refine move_b [] [] (i := 6) (v := ?_) rfl (by kernel_rfl) (by kernel_rfl) (by kernel_rfl) (fun _ _ _ h => h) (by kernel_rfl) (by kernel_rfl) (by kernel_rfl) (by rfl) ?_ hSw ?_
    rotate_left
    · (intro w hSw; (try dsimp only at hSw); go_simp; try with_reducible rfl)
    try simp only [Act.put, List.setIfInBounds_toArray, List.set_cons_zero, List.set_cons_succ]
    refine move_a (i := 8) (v := ?_) rfl (by kernel_rfl) (by kernel_rfl) (by kernel_rfl) (fun _ _ _ h => h) (by rfl) ?_ ?_
    rotate_left
    · (intro w; go_simp; try with_reducible rfl)
    try simp only [Act.put, List.setIfInBounds_toArray, List.set_cons_zero, List.set_cons_succ]
    refine move_a (i := 9) (v := ?_) rfl (by kernel_rfl) (by kernel_rfl) (by kernel_rfl) (fun _ _ _ h => h) (by rfl) ?_ ?_
    rotate_left
    · (intro w; go_simp; try with_reducible rfl)
    try simp only [Act.put, List.setIfInBounds_toArray, List.set_cons_zero, List.set_cons_succ]
    refine move_a (i := 10) (v := ?_) rfl (by kernel_rfl) (by kernel_rfl) (by kernel_rfl) (fun _ _ _ h => h) (by rfl) ?_ ?_
    rotate_left
    · (intro w; go_simp; try with_reducible rfl)
    try simp only [Act.put, List.setIfInBounds_toArray, List.set_cons_zero, List.set_cons_succ]
    refine move_a (i := 11) (v := ?_) rfl (by kernel_rfl) (by kernel_rfl) (by kernel_rfl) (fun _ _ _ h => h) (by rfl) ?_ ?_
    rotate_left
    · (intro w; go_simp; try with_reducible rfl)
    try simp only [Act.put, List.setIfInBounds_toArray, List.set_cons_zero, List.set_cons_succ]
    refine move_a (i := 12) (v := ?_) rfl (by kernel_rfl) (by kernel_rfl) (by kernel_rfl) (fun _ _ _ h => h) (by rfl) ?_ ?_
    rotate_left
    · (intro w; go_simp; try with_reducible rfl)
    try simp only [Act.put, List.setIfInBounds_toArray, List.set_cons_zero, List.set_cons_succ]
    refine move_b [] [] (i := 13) (v := ?_) rfl (by kernel_rfl) (by kernel_rfl) (by kernel_rfl) (fun _ _ _ h => h) (by kernel_rfl) (by kernel_rfl) (by kernel_rfl) (by rfl) ?_ hSw ?_
    rotate_left
    · (intro w hSw; (try dsimp only at hSw); go_simp; try with_reducible rfl)
    try simp only [Act.put, List.setIfInBounds_toArray, List.set_cons_zero, List.set_cons_succ]
    refine move_e (i := 0) (by kernel_rfl) rfl (fun K hK => ?_)
    go_simp
    refine hK _ _ (fun hS => ⟨pw_cell_below (below_alloc (Below.refl _ _) _) hS.1, pw_cell_below (below_alloc (Below.refl _ _) _) hS.2⟩) ?_
    clear hK K
    try simp only [Act.put, List.setIfInBounds_toArray, List.set_cons_zero, List.set_cons_succ]
    refine move_e (i := 7) (by kernel_rfl) rfl (fun K hK => ?_)
    (refine stepApp (w0 := w.drew) (base := w.drew.heap.size) rfl (.tmp 5) (.tmp 11) rfl rfl rfl (OwB.lit0 w.drew _ (Nat.le_refl _)) (RS.out.below ((Below.refl w.heap.size w).alloc (Nat.le_refl _) _).drew) (RB.out.alloc (Nat.le_refl _) _) (by simp) (by omega) ?_; intro A1 n1 c1 w1 ho hb; rw [List.nil_append] at ho; have HO1 := Lib.hid ho; have HB1 := Lib.hid hb; have hl1 := ho.len; rw [HL.out] at hl1; have hl1a : n1 ≤ sn := Nat.le_of_eq hl1.symm; clear hl1; clear ho hb)
    refine hK _ _ (fun hS => ⟨pw_cell_below (DB.out.trans HB1.out) e0, pw_cell_below (DB.out.trans HB1.out) e1⟩) ?_
    clear hK K
    try simp only [Act.put, List.setIfInBounds_toArray, List.set_cons_zero, List.set_cons_succ]
    refine move_e (i := 14) (by kernel_rfl) rfl (fun K hK => ?_)
    (refine stepApp (w0 := w.drew) (base := w.drew.heap.size) rfl (.tmp 12) (.tmp 18) rfl rfl rfl (HO1.out) (RW.out.below (DB.out.trans HB1.out)) (HB1.out) (by exact HB1.out.size) (by omega) ?_; intro A2 n2 c2 w2 ho hb; have HO2 := Lib.hid ho; have HB2 := Lib.hid hb; clear ho hb)
    refine hK _ _ (fun hS => ⟨pw_cell_below (DB.out.trans HB2.out) e0, pw_cell_below (DB.out.trans HB2.out) e1⟩) ?_
    clear hK K
    try simp only [Act.put, List.setIfInBounds_toArray, List.set_cons_zero, List.set_cons_succ]
    refine move_a (i := 15) (v := ?_) rfl (by kernel_rfl) (by kernel_rfl) (by kernel_rfl) (fun _ _ _ h => h) (by rfl) ?_ ?_
    rotate_left
    · (intro w; go_simp; try with_reducible rfl)
    try simp only [Act.put, List.setIfInBounds_toArray, List.set_cons_zero, List.set_cons_succ]
    refine move_d (by kernel_rfl) ?_
    go_wp2
    go_ret
    exact ⟨A2, n2, c2, rfl, by rw [HF.out]; exact HO2.out, DB.out.trans HB2.out⟩
  | 1, _ =>
    have e0 := c1
    have e1 := c3
    clear c0 c1 c2 c3
    have RS := Lib.hid (h.row 2 (by omega)).rd
    have RW := Lib.hid (h.row 3 (by omega)).rd
    have l0 : (cs 2).n ≤ 70368744177664 := by rw [← RS.out.len]; exact hs 2 (by omega)
    have l1 : (cs 3).n ≤ 70368744177664 := by rw [← RW.out.len]; exact hs 3 (by omega)
    have HL := Lib.hid RS.out.len
    have HF : Hid (fileB d 1 = d.b 2 ++ d.b 3) := Lib.hid rfl
    have DB := Lib.hid (Below.refl w.heap.size w).drew
    have RB := Lib.hid (Below.refl w.drew.heap.size w.drew)
    clear h hs
    generalize (cs 2).A = sA at *
    generalize (cs 2).n = sn at *
    generalize (cs 2).c = sc at *
    generalize (cs 3).A = wA at *
    generalize (cs 3).n = wn at *
    generalize (cs 3).c = wc at *
    go_enter Tryd.func46, Tryd.ntmps46
    go_wp2_with fail
    refine begin_ (fun W : World => W.cell? ⟨p, 1, none⟩ = some (.slice sA sn sc) ∧ W.cell? ⟨p, 3, none⟩ = some (.slice wA wn wc)) [] (by kernel_rfl) ?_
    have hSw : (fun W : World => W.cell? ⟨p, 1, none⟩ = some (.slice sA sn sc) ∧ W.cell? ⟨p, 3, none⟩ = some (.slice wA wn wc)) w.drew := ⟨e0, e1⟩
    simp only [List.size_toArray, List.length_cons, List.length_nil, Nat.reduceAdd, Array.replicate_succ, Array.replicate_zero, List.push_toArray, List.append_toArray, List.nil_append, List.cons_append]
    refine move_a (i := 1) (v := ?_) rfl (by kernel_rfl) (by kernel_rfl) (by kernel_rfl) (fun _ _ _ h => h) (by rfl) ?_ ?_
    rotate_left
    · (intro w; go_simp; try with_reducible rfl)
    try simp only [Act.put, List.setIfInBounds_toArray, List.set_cons_zero, List.set_cons_succ]
    refine move_a (i := 2) (v := ?_) rfl (by kernel_rfl) (by kernel_rfl) (by kernel_rfl) (fun _ _ _ h => h) (by rfl) ?_ ?_
    rotate_left
    · (intro w; go_simp; try with_reducible rfl)
    try simp only [Act.put, List.setIfInBounds_toArray, List.set_cons_zero, List.set_cons_succ]
    refine move_a (i := 3) (v := ?_) rfl (by kernel_rfl) (by kernel_rfl) (by kernel_rfl) (fun _ _ _ h => h) (by rfl) ?_ ?_
    rotate_left
    · (intro w; go_simp; try with_reducible rfl)
    try simp only [Act.put, List.setIfInBounds_toArray, List.set_cons_zero, List.set_cons_succ]
    refine move_a (i := 4) (v := ?_) rfl (by kernel_rfl) (by kernel_rfl) (by kernel_rfl) (fun _ _ _ h => h) (by rfl) ?_ ?_
    rotate_left
    · (intro w; go_simp; try with_reducible rfl)
    try simp only [Act.put, List.setIfInBounds_toArray, List.set_cons_zero, List.set_cons_succ]
    refine move_a (i := 5) (v := ?_) rfl (by kernel_rfl) (by kernel_rfl) (by kernel_rfl) (fun _ _ _ h => h) (by rfl) ?_ ?_
    rotate_left
    · (intro w; go_simp; try with_reducible rfl)
    try simp only [Act.put, List.setIfInBounds_toArray, List.set_cons_zero, List.set_cons_succ]
    refine move_b [] [] (i := 6) (v := ?_) rfl (by kernel_rfl) (by kernel_rfl) (by kernel_rfl) (fun _ _ _ h => h) (by kernel_rfl) (by kernel_rfl) (by kernel_rfl) (by rfl) ?_ hSw ?_
    rotate_left
    · (intro w hSw; (try dsimp only at hSw); go_simp; try with_reducible rfl)
    try simp only [Act.put, List.setIfInBounds_toArray, List.set_cons_zero, List.set_cons_succ]
    refine move_a (i := 8) (v := ?_) rfl (by kernel_rfl) (by kernel_rfl) (by kernel_rfl) (fun _ _ _ h => h) (by rfl) ?_ ?_
    rotate_left
    · (intro w; go_simp; try with_reducible rfl)
    try simp only [Act.put, List.setIfInBounds_toArray, List.set_cons_zero, List.set_cons_succ]
    refine move_a (i := 9) (v := ?_) rfl (by kernel_rfl) (by kernel_rfl) (by kernel_rfl) (fun _ _ _ h => h) (by rfl) ?_ ?_
    rotate_left
    · (intro w; go_simp; try with_reducible rfl)
    try simp only [Act.put, List.setIfInBounds_toArray, List.set_cons_zero, List.set_cons_succ]
    refine move_a (i := 10) (v := ?_) rfl (by kernel_rfl) (by kernel_rfl) (by kernel_rfl) (fun _ _ _ h => h) (by rfl) ?_ ?_
    rotate_left
    · (intro w; go_simp; try with_reducible rfl)
    try simp only [Act.put, List.setIfInBounds_toArray, List.set_cons_zero, List.set_cons_succ]
    refine move_a (i := 11) (v := ?_) rfl (by kernel_rfl) (by kernel_rfl) (by kernel_rfl) (fun _ _ _ h => h) (by rfl) ?_ ?_
    rotate_left
    · (intro w; go_simp; try with_reducible rfl)
    try simp only [Act.put, List.setIfInBounds_toArray, List.set_cons_zero, List.set_cons_succ]
    refine move_a (i := 12) (v := ?_) rfl (by kernel_rfl) (by kernel_rfl) (by kernel_rfl) (fun _ _ _ h => h) (by rfl) ?_ ?_
    rotate_left
    · (intro w; go_simp; try with_reducible rfl)
    try simp only [Act.put, List.setIfInBounds_toArray, List.set_cons_zero, List.set_cons_succ]
    refine move_b [] [] (i := 13) (v := ?_) rfl (by kernel_rfl) (by kernel_rfl) (by kernel_rfl) (fun _ _ _ h => h) (by kernel_rfl) (by kernel_rfl) (by kernel_rfl) (by rfl) ?_ hSw ?_
    rotate_left
    · (intro w hSw; (try dsimp only at hSw); go_simp; try with_reducible rfl)
    try simp only [Act.put, List.setIfInBounds_toArray, List.set_cons_zero, List.set_cons_succ]
    refine move_e (i := 0) (by kernel_rfl) rfl (fun K hK => ?_)
    go_simp
    refine hK _ _ (fun hS => ⟨pw_cell_below (below_alloc (Below.refl _ _) _) hS.1, pw_cell_below (below_alloc (Below.refl _ _) _) hS.2⟩) ?_
    clear hK K
    try simp only [Act.put, List.setIfInBounds_toArray, List.set_cons_zero, List.set_cons_succ]
    refine move_e (i := 7) (by kernel_rfl) rfl (fun K hK => ?_)
    (refine stepApp (w0 := w.drew) (base := w.drew.heap.size) rfl (.tmp 5) (.tmp 11) rfl rfl rfl (OwB.lit0 w.drew _ (Nat.le_refl _)) (RS.out.below ((Below.refl w.heap.size w).alloc (Nat.le_refl _) _).drew) (RB.out.alloc (Nat.le_refl _) _) (by simp) (by omega) ?_; intro A1 n1 c1 w1 ho hb; rw [List.nil_append] at ho; have HO1 := Lib.hid ho; have HB1 := Lib.hid hb; have hl1 := ho.len; rw [HL.out] at hl1; have hl1a : n1 ≤ sn := Nat.le_of_eq hl1.symm; clear hl1; clear ho hb)
    refine hK _ _ (fun hS => ⟨pw_cell_below (DB.out.trans HB1.out) e0, pw_cell_below (DB.out.trans HB1.out) e1⟩) ?_
    clear hK K
    try simp only [Act.put, List.setIfInBounds_toArray, List.set_cons_zero, List.set_cons_succ]
    refine move_e (i := 14) (by kernel_rfl) rfl (fun K hK => ?_)
    (refine stepApp (w0 := w.drew) (base := w.drew.heap.size) rfl (.tmp 12) (.tmp 18) rfl rfl rfl (HO1.out) (RW.out.below (DB.out.trans HB1.out)) (HB1.out) (by exact HB1.out.size) (by omega) ?_; intro A2 n2 c2 w2 ho hb; have HO2 := Lib.hid ho; have HB2 := Lib.hid hb; clear ho hb)
    refine hK _ _ (fun hS => ⟨pw_cell_below (DB.out.trans HB2.out) e0, pw_cell_below (DB.out.trans HB2.out) e1⟩) ?_
    clear hK K
    try simp only [Act.put, List.setIfInBounds_toArray, List.set_cons_zero, List.set_cons_succ]
    refine move_a (i := 15) (v := ?_) rfl (by kernel_rfl) (by kernel_rfl) (by kernel_rfl) (fun _ _ _ h => h) (by rfl) ?_ ?_
    rotate_left
    · (intro w; go_simp; try with_reducible rfl)
    try simp only [Act.put, List.setIfInBounds_toArray, List.set_cons_zero, List.set_cons_succ]
    refine move_d (by kernel_rfl) ?_
    go_wp2
    go_ret
    exact ⟨A2, n2, c2, rfl, by rw [HF.out]; exact HO2.out, DB.out.trans HB2.out⟩
end Go.Proofs.YtfinaikgikifcaaDoor.refw
/- The document's disk: Off. -/
namespace Go.Proofs.YtfinaikgikifcaaDoor.refw
open Go.RowKit Go.Proofs.YtfinaikgikifcaaDoorW.PrintWords Go.Proofs.YtfinaikgikifcaaDoor.base Go.Proofs.YtfinaikgikifcaaDoor.mem Go.Proofs.YtfinaikgikifcaaDoor.keep Go.Proofs.YtfinaikgikifcaaDoor.diskp Go.Proofs.YtfinaikgikifcaaDoor.diskr Go.Proofs.YtfinaikgikifcaaDoor.refr Go.Proofs.YtfinaikgikifcaaDoor.ordt Go.Proofs.YtfinaikgikifcaaDoor.clone Go.Proofs.YtfinaikgikifcaaDoor.diskw

theorem take_one (xs : List Int) (j : Nat) (h : j < xs.length) : xs.take (j + 1) = xs.take j ++ [xs.getD j 0] := by
  rw [List.take_add_one, List.getD_eq_getElem?_getD, List.getElem?_eq_getElem h]; rfl
theorem upd_upd {α : Type} (f : Nat → α) (i : Nat) (x y : α) : upd (upd f i x) i y = upd f i y := by
  funext j
  unfold upd
  split <;> rfl
theorem grownBy_from {w w1 : World} {o : Obj} {row : Option Nat} (h : (w.drew.alloc o).grownBy w1 row) : w.grownBy w1 row :=
  ⟨h.os, h.tape, h.output, Nat.le_trans ((Below.refl w.heap.size w).drew.alloc (Nat.le_refl _) o).size h.size, fun k hk hne => (h.block k (Nat.lt_of_lt_of_le hk ((Below.refl w.heap.size w).drew.alloc (Nat.le_refl _) o).size) hne).trans (((Below.refl w.heap.size w).drew.alloc (Nat.le_refl _) o).block k hk)⟩
set_option maxHeartbeats 16000000 in
theorem roff_any {w : World} {base p : Nat} {cs : Nat → Sl} {d : D} (h : RAt w base p cs d) (hs : Small d.b) (k : Int) :
    Calls Tryd.prog 28 #[.pointer (some ⟨p, 0, none⟩), .int .i64 k] w (RetF w base p cs (.tuple #[]) (offD d k)) := by
  have e4 := h.cells.2.2.2.2.1
  have H := Lib.hid h
  have HS := Lib.hid hs
  have HOD : Hid (offD d k = if d.off then d else ⟨offF k (offF k d.b 0) 1, true, d.n, 0, d.k⟩) := Lib.hid rfl
  clear h hs
  cases ho : d.off
  · rw [ho] at e4 HOD
    simp only [Bool.not_false] at e4
    have HOFF := Lib.hid ho
    clear ho
    go_enter Tryd.func28, Tryd.ntmps28
    go_wp2
    clear e4
    go_loopw [4] (fun li wr => ∃ (i : Nat) (cr : Nat → Sl), i ≤ 2 ∧ li = .int .i64 i ∧ Aside0 (RAt wr base p cr ⟨offN k d.b i, d.off, d.n, d.a, d.k⟩) ∧ Aside0 (DStep w base p cs wr cr)) (fun li _ => 2 - (intOf li).toNat)
    case atStart => exact ⟨0, cs, by omega, rfl, ⟨H.out⟩, ⟨DStep.refl _ _ _ _⟩⟩
    case round =>
      obtain ⟨i, cr, hi, rfl, HD, HST⟩ := hrel
      rcases (show i = 0 ∨ i = 1 ∨ i = 2 by omega) with rfl | rfl | rfl
      · obtain ⟨bb, hbb⟩ : ∃ bb, offN k d.b 0 = bb := ⟨_, rfl⟩
        have HBB := Lib.hid hbb
        have hsb : (bb 0).length ≤ 70368744177664 ∧ (bb 1).length ≤ 70368744177664 := by
          rw [← hbb]
          exact ⟨HS.out 0 (by omega), HS.out 1 (by omega)⟩
        clear hbb
        rw [HBB.out] at HD
        have HN : Hid (offN k d.b (0 + 1) = upd (upd bb 0 (bb 0 ++ (bb 1).take (stay k (bb 1)))) 1 []) := Lib.hid (by
          rw [← HBB.out]
          rfl)
        have hkl := stay_le k (bb 1)
        have hkd : stay k (bb 1) = (min (max k 0) ((bb 1).length : Int)).toNat := rfl
        obtain ⟨L, hL⟩ : ∃ L, (bb 1).length = L := ⟨_, rfl⟩
        rw [hL] at hkl hkd hsb
        have HLL := Lib.hid hL
        clear hL
        generalize stay k (bb 1) = K at hkl hkd HN
        obtain ⟨hs0, hs1⟩ := hsb
        have HJK : Hid (∀ j : Nat, j < K → (j : Int) < k) := Lib.hid (fun j h => by omega)
        have HJN : Hid (K < L → ¬ (K : Int) < k) := Lib.hid (fun h => by omega)
        clear hkd
        go_wp2
        go_loopw [5] (fun lj w2 => ∃ (j : Nat) (cj : Nat → Sl), j ≤ K ∧ lj = .int .i64 j ∧ Aside0 (RAt w2 base p cj ⟨upd bb 0 (bb 0 ++ (bb 1).take j), d.off, d.n, d.a, d.k⟩) ∧ Aside0 (DStep w base p cs w2 cj)) (fun lj _ => K - (intOf lj).toNat)
        case atStart => exact ⟨0, cr, by omega, rfl, ⟨by
          have e : upd bb 0 (bb 0 ++ (bb 1).take 0) = bb := by
            funext q
            unfold upd
            split
            · rename_i h; subst h; simp
            · rfl
          rw [e]
          exact HD.out⟩, ⟨HST.out⟩⟩
        case round =>
          rename World => w2
          obtain ⟨j, cj, hj, rfl, HJ, HSJ⟩ := hrel
          obtain ⟨c0, c2, c1, c3, _, _, _, _⟩ := HJ.out.cells
          have e0 := c0
          have e1 := c2
          clear c0 c1 c2 c3
          have f0 := HJ.out.free 0
          have f1 := HJ.out.free 2
          have RS : Hid (OwF w2 base (cj 0) (bb 0 ++ (bb 1).take j)) := Lib.hid (HJ.out.row 0 (by omega))
          have RW : Hid (OwF w2 base (cj 1) (bb 1)) := Lib.hid (HJ.out.row 1 (by omega))
          have hwl : (cj 1).n = L := by rw [← RW.out.len]; exact HLL.out
          have hsl : (cj 0).n ≤ 70368744177664 + j := by
            have := RS.out.len
            rw [List.length_append, List.length_take, HLL.out] at this
            omega
          have hnp : (cj 0).own ≠ some p := HJ.out.np 0 (by omega)
          have HSLOT := Lib.hid (fun x ys w3 hg hx ho => HJ.out.slot (w1 := w3) (i := 0) (x := x) (ys := ys) (by omega) hg hx ho)
          have HSN := Lib.hid (HJ.out.slot (w1 := w2) (i := 1) (x := nilS) (ys := []) (by omega) (grownBy_self _ _) (OwF.of (OwB.nil _ _)) (fun g e => by cases e))
          have HOWN : Hid ((cj 0).own = (Value.slice (cj 0).A (cj 0).n (cj 0).c).ownBlock) := Lib.hid rfl
          have HNP := Lib.hid hnp
          have hbs := HJ.out.base_le
          have hpl := HJ.out.plt
          clear hnp
          obtain ⟨sA, hsA⟩ : ∃ x, (cj 0).A = x := ⟨_, rfl⟩
          obtain ⟨sn, hsn⟩ : ∃ x, (cj 0).n = x := ⟨_, rfl⟩
          obtain ⟨sc, hsc⟩ : ∃ x, (cj 0).c = x := ⟨_, rfl⟩
          obtain ⟨wA, hwA⟩ : ∃ x, (cj 1).A = x := ⟨_, rfl⟩
          obtain ⟨wn, hwn⟩ : ∃ x, (cj 1).n = x := ⟨_, rfl⟩
          obtain ⟨wc, hwc⟩ : ∃ x, (cj 1).c = x := ⟨_, rfl⟩
          have HRS : Hid (OwF w2 base ⟨sA, sn, sc⟩ (bb 0 ++ (bb 1).take j)) := Lib.hid (by rw [← hsA, ← hsn, ← hsc]; exact RS.out)
          have HRW : Hid (OwF w2 base ⟨wA, wn, wc⟩ (bb 1)) := Lib.hid (by rw [← hwA, ← hwn, ← hwc]; exact RW.out)
          have RS := HRS
          have RW := HRW
          rw [hsA, hsn, hsc] at e0
          rw [hwA, hwn, hwc] at e1
          rw [hsA, hsn, hsc] at HOWN
          rw [hsn] at hsl
          rw [hwn] at hwl
          clear hsA hsn hsc hwA hwn hwc HRS HRW
          have hwla : wn ≤ L := Nat.le_of_eq hwl
          have hwlb : L ≤ wn := Nat.le_of_eq hwl.symm
          clear hwl
          by_cases hlt : j < K
          · have hj1 : j < wn := by omega
            have hj1i : (j : Int) < (wn : Int) := by omega
            obtain ⟨ad, had, hcell⟩ : ∃ ad, wA = some ad ∧ w2.cell? (ad.add j) = some (.int .u8 ((bb 1).getD j 0)) := RW.out.rd.at_ j hj1
            obtain ⟨gw, hgw⟩ : ∃ gw, wA = some ⟨gw, 0, none⟩ := by
              obtain ⟨q, hq, _⟩ := RW.out
              obtain ⟨g, e, _⟩ := OwB.form hq (show 0 < wn by omega)
              exact ⟨g, e⟩
            subst hgw
            obtain rfl : (⟨gw, 0, none⟩ : Addr) = ad := Option.some.inj had
            have hz : By [(bb 1).getD j 0] := By_of _ (fun y hy => by
              rw [List.mem_singleton] at hy
              subst hy
              have hb := RW.out.rd.2
              refine hb.mem _ ?_
              rw [List.getD_eq_getElem?_getD, List.getElem?_eq_getElem (by rw [HLL.out]; omega)]
              simp)
            have HTK := Lib.hid (take_one (bb 1) j (by rw [HLL.out]; omega))
            have e9 : w2.cell? ⟨gw, j, none⟩ = some (.int .u8 ((bb 1).getD j 0)) := by
              simpa [add_plain] using hcell
            generalize (bb 1).getD j 0 = z at e9 hz HTK
            have HZ := Lib.hid hz
            have hbsA : base ≤ (w2.drew.alloc (.cells #[.int .u8 z] 5)).heap.size := by simp; omega
            have hplA : p < (w2.drew.alloc (.cells #[.int .u8 z] 5)).heap.size := by simp; omega
            have hpa : (w2.drew.alloc (.cells #[.int .u8 z] 5)).heap[p]? = w2.heap[p]? := (((Below.refl w2.heap.size w2).drew.alloc (Nat.le_refl _) _)).block p hpl
            clear hcell had hz
            have hj2 : (j : Int) < k := HJK.out j hlt
            go_wp2_with fail
            refine begin_ (fun W : World => W.cell? ⟨p, 0, none⟩ = some (.slice sA sn sc) ∧ W.cell? ⟨p, 2, none⟩ = some (.slice (some ⟨gw, 0, none⟩) wn wc) ∧ W.cell? ⟨gw, j, none⟩ = some (.int .u8 z)) [18, 22] (by kernel_rfl) ?_
            have hSw : (fun W : World => W.cell? ⟨p, 0, none⟩ = some (.slice sA sn sc) ∧ W.cell? ⟨p, 2, none⟩ = some (.slice (some ⟨gw, 0, none⟩) wn wc) ∧ W.cell? ⟨gw, j, none⟩ = some (.int .u8 z)) w2.drew := ⟨e0, e1, e9⟩
            simp only [List.size_toArray, List.length_cons, List.length_nil, Nat.reduceAdd, Array.replicate_succ, Array.replicate_zero, List.push_toArray, List.append_toArray, List.nil_append, List.cons_append]
            refine move_a (i := 0) (v := ?_) rfl (by kernel_rfl) (by kernel_rfl) (by kernel_rfl) (fun _ _ _ h => h) (by rfl) ?_ ?_
            rotate_left
            · (intro w; go_simp; try with_reducible rfl)
            try simp only [Act.put, List.setIfInBounds_toArray, List.set_cons_zero, List.set_cons_succ]
            refine move_a (i := 1) (v := ?_) rfl (by kernel_rfl) (by kernel_rfl) (by kernel_rfl) (fun _ _ _ h => h) (by rfl) ?_ ?_
            rotate_left
            · (intro w; go_simp; try with_reducible rfl)
            try simp only [Act.put, List.setIfInBounds_toArray, List.set_cons_zero, List.set_cons_succ]
            refine move_a (i := 2) (v := ?_) rfl (by kernel_rfl) (by kernel_rfl) (by kernel_rfl) (fun _ _ _ h => h) (by rfl) ?_ ?_
            rotate_left
            · (intro w; go_simp; try with_reducible rfl)
            try simp only [Act.put, List.setIfInBounds_toArray, List.set_cons_zero, List.set_cons_succ]
            refine move_a (i := 3) (v := ?_) rfl (by kernel_rfl) (by kernel_rfl) (by kernel_rfl) (fun _ _ _ h => h) (by rfl) ?_ ?_
            rotate_left
            · (intro w; go_simp; try with_reducible rfl)
            try simp only [Act.put, List.setIfInBounds_toArray, List.set_cons_zero, List.set_cons_succ]
            refine move_a (i := 4) (v := ?_) rfl (by kernel_rfl) (by kernel_rfl) (by kernel_rfl) (fun _ _ _ h => h) (by rfl) ?_ ?_
            rotate_left
            · (intro w; go_simp; try with_reducible rfl)
            try simp only [Act.put, List.setIfInBounds_toArray, List.set_cons_zero, List.set_cons_succ]
            refine move_a (i := 5) (v := ?_) rfl (by kernel_rfl) (by kernel_rfl) (by kernel_rfl) (fun _ _ _ h => h) (by rfl) ?_ ?_
            rotate_left
            · (intro w; go_simp; try with_reducible rfl)
            try simp only [Act.put, List.setIfInBounds_toArray, List.set_cons_zero, List.set_cons_succ]
            refine move_a (i := 6) (v := ?_) rfl (by kernel_rfl) (by kernel_rfl) (by kernel_rfl) (fun _ _ _ h => h) (by rfl) ?_ ?_
            rotate_left
            · (intro w; go_simp; try with_reducible rfl)
            try simp only [Act.put, List.setIfInBounds_toArray, List.set_cons_zero, List.set_cons_succ]
            refine move_b [18, 22] [18, 22] (i := 7) (v := ?_) rfl (by kernel_rfl) (by kernel_rfl) (by kernel_rfl) (fun _ _ _ h => h) (by kernel_rfl) (by kernel_rfl) (by kernel_rfl) (by rfl) ?_ hSw ?_
            rotate_left
            · (intro w hSw; (try dsimp only at hSw); go_simp; try with_reducible rfl)
            try simp only [Act.put, List.setIfInBounds_toArray, List.set_cons_zero, List.set_cons_succ]
            refine move_a (i := 8) (v := ?_) rfl (by kernel_rfl) (by kernel_rfl) (by kernel_rfl) (fun _ _ _ h => h) (by rfl) ?_ ?_
            rotate_left
            · (intro w; go_simp; try with_reducible rfl)
            try simp only [Act.put, List.setIfInBounds_toArray, List.set_cons_zero, List.set_cons_succ]
            refine move_a (i := 9) (v := ?_) rfl (by kernel_rfl) (by kernel_rfl) (by kernel_rfl) (fun _ _ _ h => h) (by rfl) ?_ ?_
            rotate_left
            · (intro w; go_simp; try with_reducible rfl)
            try simp only [Act.put, List.setIfInBounds_toArray, List.set_cons_zero, List.set_cons_succ]
            refine move_a (i := 10) (v := ?_) rfl (by kernel_rfl) (by kernel_rfl) (by kernel_rfl) (fun _ _ _ h => h) (by rfl) ?_ ?_
            rotate_left
            · (intro w; go_simp; try with_reducible rfl)
            try simp only [Act.put, List.setIfInBounds_toArray, List.set_cons_zero, List.set_cons_succ]
            refine move_a (i := 11) (v := ?_) rfl (by kernel_rfl) (by kernel_rfl) (by kernel_rfl) (fun _ _ _ h => h) (by rfl) ?_ ?_
            rotate_left
            · (intro w; go_simp; try with_reducible rfl)
            try simp only [Act.put, List.setIfInBounds_toArray, List.set_cons_zero, List.set_cons_succ]
            refine move_a (i := 12) (v := ?_) rfl (by kernel_rfl) (by kernel_rfl) (by kernel_rfl) (fun _ _ _ h => h) (by rfl) ?_ ?_
            rotate_left
            · (intro w; go_simp; try with_reducible rfl)
            try simp only [Act.put, List.setIfInBounds_toArray, List.set_cons_zero, List.set_cons_succ]
            refine move_b [15, 16, 17, 18, 22] [18, 22] (i := 13) (v := ?_) rfl (by kernel_rfl) (by kernel_rfl) (by kernel_rfl) (fun _ _ _ h => h) (by kernel_rfl) (by kernel_rfl) (by kernel_rfl) (by rfl) ?_ hSw ?_
            rotate_left
            · (intro w hSw; (try dsimp only at hSw); go_simp; try with_reducible rfl)
            try simp only [Act.put, List.setIfInBounds_toArray, List.set_cons_zero, List.set_cons_succ]
            refine move_a (i := 14) (v := ?_) rfl (by kernel_rfl) (by kernel_rfl) (by kernel_rfl) (fun _ _ _ h => h) (by rfl) ?_ ?_
            rotate_left
            · (intro w; go_simp; try with_reducible rfl)
            try simp only [Act.put, List.setIfInBounds_toArray, List.set_cons_zero, List.set_cons_succ]
            refine move_a (i := 15) (v := ?_) rfl (by kernel_rfl) (by kernel_rfl) (by kernel_rfl) (fun _ _ _ h => h) (by rfl) ?_ ?_
            rotate_left
            · (intro w; go_simp; try with_reducible rfl)
            try simp only [Act.put, List.setIfInBounds_toArray, List.set_cons_zero, List.set_cons_succ]
            refine move_b [17, 18, 22] [18, 22] (i := 16) (v := ?_) rfl (by kernel_rfl) (by kernel_rfl) (by kernel_rfl) (fun _ _ _ h => h) (by kernel_rfl) (by kernel_rfl) (by kernel_rfl) (by rfl) ?_ hSw ?_
            rotate_left
            · (intro w hSw; (try dsimp only at hSw); go_simp; try with_reducible rfl)
            try simp only [Act.put, List.setIfInBounds_toArray, List.set_cons_zero, List.set_cons_succ]
            refine move_a (i := 19) (v := ?_) rfl (by kernel_rfl) (by kernel_rfl) (by kernel_rfl) (fun _ _ _ h => h) (by rfl) ?_ ?_
            rotate_left
            · (intro w; go_simp; try with_reducible rfl)
            try simp only [Act.put, List.setIfInBounds_toArray, List.set_cons_zero, List.set_cons_succ]
            refine move_a (i := 20) (v := ?_) rfl (by kernel_rfl) (by kernel_rfl) (by kernel_rfl) (fun _ _ _ h => h) (by rfl) ?_ ?_
            rotate_left
            · (intro w; go_simp; try with_reducible rfl)
            try simp only [Act.put, List.setIfInBounds_toArray, List.set_cons_zero, List.set_cons_succ]
            refine move_e (i := 17) (by kernel_rfl) rfl (fun K hK => ?_)
            go_simp
            refine hK _ _ (fun hS => ⟨pw_cell_below (below_alloc (Below.refl _ _) _) hS.1, pw_cell_below (below_alloc (Below.refl _ _) _) hS.2.1, pw_cell_below (below_alloc (Below.refl _ _) _) hS.2.2⟩) ?_
            clear hK K
            try simp only [Act.put, List.setIfInBounds_toArray, List.set_cons_zero, List.set_cons_succ]
            refine move_c (i := 18) (by kernel_rfl) rfl (by rfl) (fun K hK => ?_)
            (refine stepAppF (base := base) rfl (.tmp 38) (.tmp 48) rfl rfl rfl (OwF.below RS.out (((Below.refl w2.heap.size w2).alloc (Nat.le_refl _) _).drew)) (litB w2.drew (0, 0) [z] (Nat.le_of_ble_eq_true rfl) HZ.out) hbsA (show sn + 1 ≤ 140737488355328 by omega) ?_; intro A1 n1 c1 w3 ho hg hob; have HO := Lib.hid ho; have HG := Lib.hid hg; have HOB := Lib.hid hob; have hpb : w3.heap[p]? = w2.heap[p]? := (hg.block p hplA (fun e => HNP.out (HOWN.out.trans e.symm))).trans hpa; have y0 : w3.cell? ⟨p, 0, none⟩ = some (.slice sA sn sc) := (World.cell?_of_block hpb).trans e0; have z0 : w3.frozen? ⟨p, 0, none⟩ = false := (World.frozen?_of_block hpb).trans f0; clear ho hg hob hpb)
            refine hK _ _ ?_
            clear hK K
            try simp only [Act.put, List.setIfInBounds_toArray, List.set_cons_zero, List.set_cons_succ]
            refine move_a (i := 21) (v := ?_) rfl (by kernel_rfl) (by kernel_rfl) (by kernel_rfl) (fun _ _ _ h => h) (by rfl) ?_ ?_
            rotate_left
            · (intro w; go_simp; try with_reducible rfl)
            try simp only [Act.put, List.setIfInBounds_toArray, List.set_cons_zero, List.set_cons_succ]
            refine move_c (i := 22) (by kernel_rfl) rfl (by rfl) (fun K hK => ?_)
            go_simp
            refine hK _ _ ?_
            clear hK K
            try simp only [Act.put, List.setIfInBounds_toArray, List.set_cons_zero, List.set_cons_succ]
            refine move_d (by kernel_rfl) ?_
            have HF := Lib.hid (HSLOT.out ⟨A1, n1, c1⟩ _ w3 (by rw [HOWN.out]; exact grownBy_from HG.out) HO.out (fun g e => by rw [HOWN.out]; exact (HOB.out g e).imp id (fun h => Nat.le_trans (Nat.le_of_lt (Nat.lt_succ_self _)) (by simpa using h))))
            clear y0 z0 e0 e1 e9 f0 f1
            go_wp2
            go_roundw
            case rel => exact ⟨j + 1, _, by omega, by go_num, ⟨by
              have h1 := HF.out.1
              unfold putB at h1
              dsimp only at h1
              rw [upd_upd, List.append_assoc, ← HTK.out] at h1
              exact h1⟩, ⟨HSJ.out.trans HF.out.2⟩⟩
            case measure => simp [intOf]; omega
          · obtain rfl : j = K := by omega
            have hend : RAt (w2.setCell ⟨p, 2, none⟩ (.slice none 0 0)) base p (upd cj 1 nilS) ⟨offN k d.b (0 + 1), d.off, d.n, d.a, d.k⟩ := by
              rw [HN.out]
              exact HSN.out.1
            have HEND := Lib.hid hend
            clear hend hlt
            by_cases hKL : j < L
            · have hk2 := HJN.out hKL
              have hj1 : j < wn := by omega
              have hj1i : (j : Int) < (wn : Int) := by omega
              clear hKL
              go_wp2
              go_roundw
              case rel => exact ⟨0 + 1, _, by omega, by go_num, ⟨HEND.out⟩, ⟨HSJ.out.trans HSN.out.2⟩⟩
              case measure => simp [intOf]
            · have hj1 : ¬ j < wn := by omega
              have hj1i : ¬ (j : Int) < (wn : Int) := by omega
              clear hKL
              go_wp2
              go_roundw
              case rel => exact ⟨0 + 1, _, by omega, by go_num, ⟨HEND.out⟩, ⟨HSJ.out.trans HSN.out.2⟩⟩
              case measure => simp [intOf]
      · obtain ⟨bb, hbb⟩ : ∃ bb, offN k d.b 1 = bb := ⟨_, rfl⟩
        have HBB := Lib.hid hbb
        have hsb : (bb 2).length ≤ 70368744177664 ∧ (bb 3).length ≤ 70368744177664 := by
          rw [← hbb]
          exact ⟨HS.out 2 (by omega), HS.out 3 (by omega)⟩
        clear hbb
        rw [HBB.out] at HD
        have HN : Hid (offN k d.b (1 + 1) = upd (upd bb 2 (bb 2 ++ (bb 3).take (stay k (bb 3)))) 3 []) := Lib.hid (by
          rw [← HBB.out]
          rfl)
        have hkl := stay_le k (bb 3)
        have hkd : stay k (bb 3) = (min (max k 0) ((bb 3).length : Int)).toNat := rfl
        obtain ⟨L, hL⟩ : ∃ L, (bb 3).length = L := ⟨_, rfl⟩
        rw [hL] at hkl hkd hsb
        have HLL := Lib.hid hL
        clear hL
        generalize stay k (bb 3) = K at hkl hkd HN
        obtain ⟨hs0, hs1⟩ := hsb
        have HJK : Hid (∀ j : Nat, j < K → (j : Int) < k) := Lib.hid (fun j h => by omega)
        have HJN : Hid (K < L → ¬ (K : Int) < k) := Lib.hid (fun h => by omega)
        clear hkd
        go_wp2
        go_loopw [5] (fun lj w2 => ∃ (j : Nat) (cj : Nat → Sl), j ≤ K ∧ lj = .int .i64 j ∧ Aside0 (RAt w2 base p cj ⟨upd bb 2 (bb 2 ++ (bb 3).take j), d.off, d.n, d.a, d.k⟩) ∧ Aside0 (DStep w base p cs w2 cj)) (fun lj _ => K - (intOf lj).toNat)
        case atStart => exact ⟨0, cr, by omega, rfl, ⟨by
          have e : upd bb 2 (bb 2 ++ (bb 3).take 0) = bb := by
            funext q
            unfold upd
            split
            · rename_i h; subst h; simp
            · rfl
          rw [e]
          exact HD.out⟩, ⟨HST.out⟩⟩
        case round =>
          rename World => w2
          obtain ⟨j, cj, hj, rfl, HJ, HSJ⟩ := hrel
          obtain ⟨c0, c2, c1, c3, _, _, _, _⟩ := HJ.out.cells
          have e0 := c1
          have e1 := c3
          clear c0 c1 c2 c3
          have f0 := HJ.out.free 1
          have f1 := HJ.out.free 3
          have RS : Hid (OwF w2 base (cj 2) (bb 2 ++ (bb 3).take j)) := Lib.hid (HJ.out.row 2 (by omega))
          have RW : Hid (OwF w2 base (cj 3) (bb 3)) := Lib.hid (HJ.out.row 3 (by omega))
          have hwl : (cj 3).n = L := by rw [← RW.out.len]; exact HLL.out
          have hsl : (cj 2).n ≤ 70368744177664 + j := by
            have := RS.out.len
            rw [List.length_append, List.length_take, HLL.out] at this
            omega
          have hnp : (cj 2).own ≠ some p := HJ.out.np 2 (by omega)
          have HSLOT := Lib.hid (fun x ys w3 hg hx ho => HJ.out.slot (w1 := w3) (i := 2) (x := x) (ys := ys) (by omega) hg hx ho)
          have HSN := Lib.hid (HJ.out.slot (w1 := w2) (i := 3) (x := nilS) (ys := []) (by omega) (grownBy_self _ _) (OwF.of (OwB.nil _ _)) (fun g e => by cases e))
          have HOWN : Hid ((cj 2).own = (Value.slice (cj 2).A (cj 2).n (cj 2).c).ownBlock) := Lib.hid rfl
          have HNP := Lib.hid hnp
          have hbs := HJ.out.base_le
          have hpl := HJ.out.plt
          clear hnp
          obtain ⟨sA, hsA⟩ : ∃ x, (cj 2).A = x := ⟨_, rfl⟩
          obtain ⟨sn, hsn⟩ : ∃ x, (cj 2).n = x := ⟨_, rfl⟩
          obtain ⟨sc, hsc⟩ : ∃ x, (cj 2).c = x := ⟨_, rfl⟩
          obtain ⟨wA, hwA⟩ : ∃ x, (cj 3).A = x := ⟨_, rfl⟩
          obtain ⟨wn, hwn⟩ : ∃ x, (cj 3).n = x := ⟨_, rfl⟩
          obtain ⟨wc, hwc⟩ : ∃ x, (cj 3).c = x := ⟨_, rfl⟩
          have HRS : Hid (OwF w2 base ⟨sA, sn, sc⟩ (bb 2 ++ (bb 3).take j)) := Lib.hid (by rw [← hsA, ← hsn, ← hsc]; exact RS.out)
          have HRW : Hid (OwF w2 base ⟨wA, wn, wc⟩ (bb 3)) := Lib.hid (by rw [← hwA, ← hwn, ← hwc]; exact RW.out)
          have RS := HRS
          have RW := HRW
          rw [hsA, hsn, hsc] at e0
          rw [hwA, hwn, hwc] at e1
          rw [hsA, hsn, hsc] at HOWN
          rw [hsn] at hsl
          rw [hwn] at hwl
          clear hsA hsn hsc hwA hwn hwc HRS HRW
          have hwla : wn ≤ L := Nat.le_of_eq hwl
          have hwlb : L ≤ wn := Nat.le_of_eq hwl.symm
          clear hwl
          by_cases hlt : j < K
          · have hj1 : j < wn := by omega
            have hj1i : (j : Int) < (wn : Int) := by omega
            obtain ⟨ad, had, hcell⟩ : ∃ ad, wA = some ad ∧ w2.cell? (ad.add j) = some (.int .u8 ((bb 3).getD j 0)) := RW.out.rd.at_ j hj1
            obtain ⟨gw, hgw⟩ : ∃ gw, wA = some ⟨gw, 0, none⟩ := by
              obtain ⟨q, hq, _⟩ := RW.out
              obtain ⟨g, e, _⟩ := OwB.form hq (show 0 < wn by omega)
              exact ⟨g, e⟩
            subst hgw
            obtain rfl : (⟨gw, 0, none⟩ : Addr) = ad := Option.some.inj had
            have hz : By [(bb 3).getD j 0] := By_of _ (fun y hy => by
              rw [List.mem_singleton] at hy
              subst hy
              have hb := RW.out.rd.2
              refine hb.mem _ ?_
              rw [List.getD_eq_getElem?_getD, List.getElem?_eq_getElem (by rw [HLL.out]; omega)]
              simp)
            have HTK := Lib.hid (take_one (bb 3) j (by rw [HLL.out]; omega))
            have e9 : w2.cell? ⟨gw, j, none⟩ = some (.int .u8 ((bb 3).getD j 0)) := by
              simpa [add_plain] using hcell
            generalize (bb 3).getD j 0 = z at e9 hz HTK
            have HZ := Lib.hid hz
            have hbsA : base ≤ (w2.drew.alloc (.cells #[.int .u8 z] 5)).heap.size := by simp; omega
            have hplA : p < (w2.drew.alloc (.cells #[.int .u8 z] 5)).heap.size := by simp; omega
            have hpa : (w2.drew.alloc (.cells #[.int .u8 z] 5)).heap[p]? = w2.heap[p]? := (((Below.refl w2.heap.size w2).drew.alloc (Nat.le_refl _) _)).block p hpl
            clear hcell had hz
            have hj2 : (j : Int) < k := HJK.out j hlt
            go_wp2_with fail
            refine begin_ (fun W : World => W.cell? ⟨p, 1, none⟩ = some (.slice sA sn sc) ∧ W.cell? ⟨p, 3, none⟩ = some (.slice (some ⟨gw, 0, none⟩) wn wc) ∧ W.cell? ⟨gw, j, none⟩ = some (.int .u8 z)) [18, 22] (by kernel_rfl) ?_
            have hSw : (fun W : World => W.cell? ⟨p, 1, none⟩ = some (.slice sA sn sc) ∧ W.cell? ⟨p, 3, none⟩ = some (.slice (some ⟨gw, 0, none⟩) wn wc) ∧ W.cell? ⟨gw, j, none⟩ = some (.int .u8 z)) w2.drew := ⟨e0, e1, e9⟩
            simp only [List.size_toArray, List.length_cons, List.length_nil, Nat.reduceAdd, Array.replicate_succ, Array.replicate_zero, List.push_toArray, List.append_toArray, List.nil_append, List.cons_append]
            refine move_a (i := 0) (v := ?_) rfl (by kernel_rfl) (by kernel_rfl) (by kernel_rfl) (fun _ _ _ h => h) (by rfl) ?_ ?_
            rotate_left
            · (intro w; go_simp; try with_reducible rfl)
            try simp only [Act.put, List.setIfInBounds_toArray, List.set_cons_zero, List.set_cons_succ]
            refine move_a (i := 1) (v := ?_) rfl (by kernel_rfl) (by kernel_rfl) (by kernel_rfl) (fun _ _ _ h => h) (by rfl) ?_ ?_
            rotate_left
            · (intro w; go_simp; try with_reducible rfl)
            try simp only [Act.put, List.setIfInBounds_toArray, List.set_cons_zero, List.set_cons_succ]
            refine move_a (i := 2) (v := ?_) rfl (by kernel_rfl) (by kernel_rfl) (by kernel_rfl) (fun _ _ _ h => h) (by rfl) ?_ ?_
            rotate_left
            · (intro w; go_simp; try with_reducible rfl)
            try simp only [Act.put, List.setIfInBounds_toArray, List.set_cons_zero, List.set_cons_succ]
            refine move_a (i := 3) (v := ?_) rfl (by kernel_rfl) (by kernel_rfl) (by kernel_rfl) (fun _ _ _ h => h) (by rfl) ?_ ?_
            rotate_left
            · (intro w; go_simp; try with_reducible rfl)
            try simp only [Act.put, List.setIfInBounds_toArray, List.set_cons_zero, List.set_cons_succ]
            refine move_a (i := 4) (v := ?_) rfl (by kernel_rfl) (by kernel_rfl) (by kernel_rfl) (fun _ _ _ h => h) (by rfl) ?_ ?_
            rotate_left
            · (intro w; go_simp; try with_reducible rfl)
            try simp only [Act.put, List.setIfInBounds_toArray, List.set_cons_zero, List.set_cons_succ]
            refine move_a (i := 5) (v := ?_) rfl (by kernel_rfl) (by kernel_rfl) (by kernel_rfl) (fun _ _ _ h => h) (by rfl) ?_ ?_
            rotate_left
            · (intro w; go_simp; try with_reducible rfl)
            try simp only [Act.put, List.setIfInBounds_toArray, List.set_cons_zero, List.set_cons_succ]
            refine move_a (i := 6) (v := ?_) rfl (by kernel_rfl) (by kernel_rfl) (by kernel_rfl) (fun _ _ _ h => h) (by rfl) ?_ ?_
            rotate_left
            · (intro w; go_simp; try with_reducible rfl)
            try simp only [Act.put, List.setIfInBounds_toArray, List.set_cons_zero, List.set_cons_succ]
            refine move_b [18, 22] [18, 22] (i := 7) (v := ?_) rfl (by kernel_rfl) (by kernel_rfl) (by kernel_rfl) (fun _ _ _ h => h) (by kernel_rfl) (by kernel_rfl) (by kernel_rfl) (by rfl) ?_ hSw ?_
            rotate_left
            · (intro w hSw; (try dsimp only at hSw); go_simp; try with_reducible rfl)
            try simp only [Act.put, List.setIfInBounds_toArray, List.set_cons_zero, List.set_cons_succ]
            refine move_a (i := 8) (v := ?_) rfl (by kernel_rfl) (by kernel_rfl) (by kernel_rfl) (fun _ _ _ h => h) (by rfl) ?_ ?_
            rotate_left
            · (intro w; go_simp; try with_reducible rfl)
            try simp only [Act.put, List.setIfInBounds_toArray, List.set_cons_zero, List.set_cons_succ]
            refine move_a (i := 9) (v := ?_) rfl (by kernel_rfl) (by kernel_rfl) (by kernel_rfl) (fun _ _ _ h => h) (by rfl) ?_ ?_
            rotate_left
            · (intro w; go_simp; try with_reducible rfl)
            try simp only [Act.put, List.setIfInBounds_toArray, List.set_cons_zero, List.set_cons_succ]
            refine move_a (i := 10) (v := ?_) rfl (by kernel_rfl) (by kernel_rfl) (by kernel_rfl) (fun _ _ _ h => h) (by rfl) ?_ ?_
            rotate_left
            · (intro w; go_simp; try with_reducible rfl)
            try simp only [Act.put, List.setIfInBounds_toArray, List.set_cons_zero, List.set_cons_succ]
            refine move_a (i := 11) (v := ?_) rfl (by kernel_rfl) (by kernel_rfl) (by kernel_rfl) (fun _ _ _ h => h) (by rfl) ?_ ?_
            rotate_left
            · (intro w; go_simp; try with_reducible rfl)
            try simp only [Act.put, List.setIfInBounds_toArray, List.set_cons_zero, List.set_cons_succ]
            refine move_a (i := 12) (v := ?_) rfl (by kernel_rfl) (by kernel_rfl) (by kernel_rfl) (fun _ _ _ h => h) (by rfl) ?_ ?_
            rotate_left
            · (intro w; go_simp; try with_reducible rfl)
            try simp only [Act.put, List.setIfInBounds_toArray, List.set_cons_zero, List.set_cons_succ]
            refine move_b [15, 16, 17, 18, 22] [18, 22] (i := 13) (v := ?_) rfl (by kernel_rfl) (by kernel_rfl) (by kernel_rfl) (fun _ _ _ h => h) (by kernel_rfl) (by kernel_rfl) (by kernel_rfl) (by rfl) ?_ hSw ?_
            rotate_left
            · (intro w hSw; (try dsimp only at hSw); go_simp; try with_reducible rfl)
            try simp only [Act.put, List.setIfInBounds_toArray, List.set_cons_zero, List.set_cons_succ]
            refine move_a (i := 14) (v := ?_) rfl (by kernel_rfl) (by kernel_rfl) (by kernel_rfl) (fun _ _ _ h => h) (by rfl) ?_ ?_
            rotate_left
            · (intro w; go_simp; try with_reducible rfl)
            try simp only [Act.put, List.setIfInBounds_toArray, List.set_cons_zero, List.set_cons_succ]
            refine move_a (i := 15) (v := ?_) rfl (by kernel_rfl) (by kernel_rfl) (by kernel_rfl) (fun _ _ _ h => h) (by rfl) ?_ ?_
            rotate_left
            · (intro w; go_simp; try with_reducible rfl)
            try simp only [Act.put, List.setIfInBounds_toArray, List.set_cons_zero, List.set_cons_succ]
            refine move_b [17, 18, 22] [18, 22] (i := 16) (v := ?_) rfl (by kernel_rfl) (by kernel_rfl) (by kernel_rfl) (fun _ _ _ h => h) (by kernel_rfl) (by kernel_rfl) (by kernel_rfl) (by rfl) ?_ hSw ?_
            rotate_left
            · (intro w hSw; (try dsimp only at hSw); go_simp; try with_reducible rfl)
            try simp only [Act.put, List.setIfInBounds_toArray, List.set_cons_zero, List.set_cons_succ]
            refine move_a (i := 19) (v := ?_) rfl (by kernel_rfl) (by kernel_rfl) (by kernel_rfl) (fun _ _ _ h => h) (by rfl) ?_ ?_
            rotate_left
            · (intro w; go_simp; try with_reducible rfl)
            try simp only [Act.put, List.setIfInBounds_toArray, List.set_cons_zero, List.set_cons_succ]
            refine move_a (i := 20) (v := ?_) rfl (by kernel_rfl) (by kernel_rfl) (by kernel_rfl) (fun _ _ _ h => h) (by rfl) ?_ ?_
            rotate_left
            · (intro w; go_simp; try with_reducible rfl)
            try simp only [Act.put, List.setIfInBounds_toArray, List.set_cons_zero, List.set_cons_succ]
            refine move_e (i := 17) (by kernel_rfl) rfl (fun K hK => ?_)
            go_simp
            refine hK _ _ (fun hS => ⟨pw_cell_below (below_alloc (Below.refl _ _) _) hS.1, pw_cell_below (below_alloc (Below.refl _ _) _) hS.2.1, pw_cell_below (below_alloc (Below.refl _ _) _) hS.2.2⟩) ?_
            clear hK K
            try simp only [Act.put, List.setIfInBounds_toArray, List.set_cons_zero, List.set_cons_succ]
            refine move_c (i := 18) (by kernel_rfl) rfl (by rfl) (fun K hK => ?_)
            (refine stepAppF (base := base) rfl (.tmp 38) (.tmp 48) rfl rfl rfl (OwF.below RS.out (((Below.refl w2.heap.size w2).alloc (Nat.le_refl _) _).drew)) (litB w2.drew (0, 0) [z] (Nat.le_of_ble_eq_true rfl) HZ.out) hbsA (show sn + 1 ≤ 140737488355328 by omega) ?_; intro A1 n1 c1 w3 ho hg hob; have HO := Lib.hid ho; have HG := Lib.hid hg; have HOB := Lib.hid hob; have hpb : w3.heap[p]? = w2.heap[p]? := (hg.block p hplA (fun e => HNP.out (HOWN.out.trans e.symm))).trans hpa; have y0 : w3.cell? ⟨p, 1, none⟩ = some (.slice sA sn sc) := (World.cell?_of_block hpb).trans e0; have z0 : w3.frozen? ⟨p, 1, none⟩ = false := (World.frozen?_of_block hpb).trans f0; clear ho hg hob hpb)
            refine hK _ _ ?_
            clear hK K
            try simp only [Act.put, List.setIfInBounds_toArray, List.set_cons_zero, List.set_cons_succ]
            refine move_a (i := 21) (v := ?_) rfl (by kernel_rfl) (by kernel_rfl) (by kernel_rfl) (fun _ _ _ h => h) (by rfl) ?_ ?_
            rotate_left
            · (intro w; go_simp; try with_reducible rfl)
            try simp only [Act.put, List.setIfInBounds_toArray, List.set_cons_zero, List.set_cons_succ]
            refine move_c (i := 22) (by kernel_rfl) rfl (by rfl) (fun K hK => ?_)
            go_simp
            refine hK _ _ ?_
            clear hK K
            try simp only [Act.put, List.setIfInBounds_toArray, List.set_cons_zero, List.set_cons_succ]
            refine move_d (by kernel_rfl) ?_
            have HF := Lib.hid (HSLOT.out ⟨A1, n1, c1⟩ _ w3 (by rw [HOWN.out]; exact grownBy_from HG.out) HO.out (fun g e => by rw [HOWN.out]; exact (HOB.out g e).imp id (fun h => Nat.le_trans (Nat.le_of_lt (Nat.lt_succ_self _)) (by simpa using h))))
            clear y0 z0 e0 e1 e9 f0 f1
            go_wp2
            go_roundw
            case rel => exact ⟨j + 1, _, by omega, by go_num, ⟨by
              have h1 := HF.out.1
              unfold putB at h1
              dsimp only at h1
              rw [upd_upd, List.append_assoc, ← HTK.out] at h1
              exact h1⟩, ⟨HSJ.out.trans HF.out.2⟩⟩
            case measure => simp [intOf]; omega
          · obtain rfl : j = K := by omega
            have hend : RAt (w2.setCell ⟨p, 3, none⟩ (.slice none 0 0)) base p (upd cj 3 nilS) ⟨offN k d.b (1 + 1), d.off, d.n, d.a, d.k⟩ := by
              rw [HN.out]
              exact HSN.out.1
            have HEND := Lib.hid hend
            clear hend hlt
            by_cases hKL : j < L
            · have hk2 := HJN.out hKL
              have hj1 : j < wn := by omega
              have hj1i : (j : Int) < (wn : Int) := by omega
              clear hKL
              go_wp2
              go_roundw
              case rel => exact ⟨1 + 1, _, by omega, by go_num, ⟨HEND.out⟩, ⟨HSJ.out.trans HSN.out.2⟩⟩
              case measure => simp [intOf]
            · have hj1 : ¬ j < wn := by omega
              have hj1i : ¬ (j : Int) < (wn : Int) := by omega
              clear hKL
              go_wp2
              go_roundw
              case rel => exact ⟨1 + 1, _, by omega, by go_num, ⟨HEND.out⟩, ⟨HSJ.out.trans HSN.out.2⟩⟩
              case measure => simp [intOf]
      · obtain ⟨_, _, _, _, e4, _, e6, _⟩ := HD.out.cells
        obtain ⟨_, _, _, _, f4, _, f6, _⟩ := HD.out.frees
        have h4 := HD.out.scal 4 (.bool false) (d' := ⟨offN k d.b 2, true, d.n, d.a, d.k⟩) rfl rfl
        have S4 := HST.out.trans (rstep_store HD.out 4 (.bool false))
        have H6 := Lib.hid (h4.scal 6 (.int .i64 0) (d' := ⟨offN k d.b 2, true, d.n, 0, d.k⟩) rfl rfl)
        have S6 := Lib.hid (S4.trans (rstep_store h4 6 (.int .i64 0)))
        clear h4 S4
        go_wp2
        refine bodyPost_end (results_none rfl _ _ _) rfl ?_
        exact ⟨rfl, cr, by rw [HOD.out]; exact H6.out, S6.out⟩
  · rw [ho] at e4 HOD
    simp only [Bool.not_true] at e4
    have HOD := Lib.hid (HOD.out.trans (if_pos rfl))
    clear ho
    go_enter Tryd.func28, Tryd.ntmps28
    go_wp2
    refine bodyPost_ret (results_none rfl _ _ _) rfl ?_
    exact ⟨rfl, cs, by rw [HOD.out]; exact H.out, DStep.refl _ _ _ _⟩
end Go.Proofs.YtfinaikgikifcaaDoor.refw
/- The document's disk: Append. -/
namespace Go.Proofs.YtfinaikgikifcaaDoor.refw
open Go.RowKit Go.Proofs.YtfinaikgikifcaaDoorW.PrintWords Go.Proofs.YtfinaikgikifcaaDoor.base Go.Proofs.YtfinaikgikifcaaDoor.mem Go.Proofs.YtfinaikgikifcaaDoor.keep Go.Proofs.YtfinaikgikifcaaDoor.diskp Go.Proofs.YtfinaikgikifcaaDoor.diskr Go.Proofs.YtfinaikgikifcaaDoor.refr Go.Proofs.YtfinaikgikifcaaDoor.ordt Go.Proofs.YtfinaikgikifcaaDoor.clone Go.Proofs.YtfinaikgikifcaaDoor.diskw

theorem rdy0 {d : D} (f : Nat) (hf : f < 2) : rdy d (f : Int) = ans d.off := by
  unfold rdy ans
  rw [if_neg (by omega)]
theorem rdy_bad {d : D} {f : Int} (h0 : f ≠ 0) (h1 : f ≠ 1) : rdy d f = 1 := by
  unfold rdy
  rw [if_pos (by omega)]
set_option maxHeartbeats 8000000 in
theorem rappend_any {w : World} {base p : Nat} {cs : Nat → Sl} {d : D} (h : RAt w base p cs d) (hd : Fit d) (f : Int) (A : Option Addr) (m c : Nat) (ys : List Int) (hr : RdB w A m ys) (hsz : ∀ i, i < 4 → (d.b i).length + m ≤ 70368744177664) :
    Calls Tryd.prog 41 #[.pointer (some ⟨p, 0, none⟩), .int .i64 f, .slice A m c] w (RetF w base p cs (.int .i64 (appR d f ys).2) (appR d f ys).1) := by
  have H := Lib.hid h
  have HR := Lib.hid hr
  have e4 := h.cells.2.2.2.2.1
  have HA : Hid (appR d f ys = if rdy d f ≠ 0 then (d, rdy d f) else (appD d f.toNat ys, ans (rawD d).2)) := Lib.hid rfl
  have hml := hr.len
  by_cases hf0 : f = 0
  · subst hf0
    cases ho : d.off
    · have HA := Lib.hid (HA.out.trans (if_neg (by rw [show rdy d 0 = ans d.off from rdy0 0 (by omega), ho]; decide)))
      rw [ho] at e4
      simp only [Bool.not_false] at e4
      have e1 : w.cell? ⟨p, 2, none⟩ = some (.slice (cs 1).A (cs 1).n (cs 1).c) := h.cells.2.1
      have RW := Lib.hid (h.row 1 (by omega)).rd
      have HLW := Lib.hid RW.out.len
      have hl := hsz 1 (by omega)
      rw [HLW.out] at hl
      have HSZ := Lib.hid hsz
      have HD := Lib.hid hd
      have DB := Lib.hid (Below.refl w.heap.size w).drew
      have RB := Lib.hid (Below.refl w.drew.heap.size w.drew)
      clear h hd hr hsz ho
      generalize (cs 1).A = wA at *
      generalize (cs 1).n = wn at *
      generalize (cs 1).c = wc at *
      go_enter Tryd.func41, Tryd.ntmps41
      go_wp2_with fail
      refine begin_ (fun W : World => W.cell? ⟨p, 2, none⟩ = some (.slice wA wn wc)) [9, 11, 15] (by kernel_rfl) ?_
      have hSw : (fun W : World => W.cell? ⟨p, 2, none⟩ = some (.slice wA wn wc)) w.drew := e1
      simp only [List.size_toArray, List.length_cons, List.length_nil, Nat.reduceAdd, Array.replicate_succ, Array.replicate_zero, List.push_toArray, List.append_toArray, List.nil_append, List.cons_append]
      refine move_a (i := 0) (v := ?_) rfl (by kernel_rfl) (by kernel_rfl) (by kernel_rfl) (fun _ _ _ h => h) (by rfl) ?_ ?_
      rotate_left
      · (intro w; go_simp; try with_reducible rfl)
      try simp only [Act.put, List.setIfInBounds_toArray, List.set_cons_zero, List.set_cons_succ]
      refine move_a (i := 1) (v := ?_) rfl (by kernel_rfl) (by kernel_rfl) (by kernel_rfl) (fun _ _ _ h => h) (by rfl) ?_ ?_
      rotate_left
      · (intro w; go_simp; try with_reducible rfl)
      try simp only [Act.put, List.setIfInBounds_toArray, List.set_cons_zero, List.set_cons_succ]
      refine move_a (i := 3) (v := ?_) rfl (by kernel_rfl) (by kernel_rfl) (by kernel_rfl) (fun _ _ _ h => h) (by rfl) ?_ ?_
      rotate_left
      · (intro w; go_simp; try with_reducible rfl)
      try simp only [Act.put, List.setIfInBounds_toArray, List.set_cons_zero, List.set_cons_succ]
      refine move_a (i := 4) (v := ?_) rfl (by kernel_rfl) (by kernel_rfl) (by kernel_rfl) (fun _ _ _ h => h) (by rfl) ?_ ?_
      rotate_left
      · (intro w; go_simp; try with_reducible rfl)
      try simp only [Act.put, List.setIfInBounds_toArray, List.set_cons_zero, List.set_cons_succ]
      refine move_a (i := 5) (v := ?_) rfl (by kernel_rfl) (by kernel_rfl) (by kernel_rfl) (fun _ _ _ h => h) (by rfl) ?_ ?_
      rotate_left
      · (intro w; go_simp; try with_reducible rfl)
      try simp only [Act.put, List.setIfInBounds_toArray, List.set_cons_zero, List.set_cons_succ]
      refine move_a (i := 6) (v := ?_) rfl (by kernel_rfl) (by kernel_rfl) (by kernel_rfl) (fun _ _ _ h => h) (by rfl) ?_ ?_
      rotate_left
      · (intro w; go_simp; try with_reducible rfl)
      try simp only [Act.put, List.setIfInBounds_toArray, List.set_cons_zero, List.set_cons_succ]
      refine move_a (i := 7) (v := ?_) rfl (by kernel_rfl) (by kernel_rfl) (by kernel_rfl) (fun _ _ _ h => h) (by rfl) ?_ ?_
      rotate_left
      · (intro w; go_simp; try with_reducible rfl)
      try simp only [Act.put, List.setIfInBounds_toArray, List.set_cons_zero, List.set_cons_succ]
      refine move_b [9, 11, 15] [9, 11, 15] (i := 8) (v := ?_) rfl (by kernel_rfl) (by kernel_rfl) (by kernel_rfl) (fun _ _ _ h => h) (by kernel_rfl) (by kernel_rfl) (by kernel_rfl) (by rfl) ?_ hSw ?_
      rotate_left
      · (intro w hSw; (try dsimp only at hSw); go_simp; try with_reducible rfl)
      try simp only [Act.put, List.setIfInBounds_toArray, List.set_cons_zero, List.set_cons_succ]
      refine move_a (i := 10) (v := ?_) rfl (by kernel_rfl) (by kernel_rfl) (by kernel_rfl) (fun _ _ _ h => h) (by rfl) ?_ ?_
      rotate_left
      · (intro w; go_simp; try with_reducible rfl)
      try simp only [Act.put, List.setIfInBounds_toArray, List.set_cons_zero, List.set_cons_succ]
      refine move_a (i := 12) (v := ?_) rfl (by kernel_rfl) (by kernel_rfl) (by kernel_rfl) (fun _ _ _ h => h) (by rfl) ?_ ?_
      rotate_left
      · (intro w; go_simp; try with_reducible rfl)
      try simp only [Act.put, List.setIfInBounds_toArray, List.set_cons_zero, List.set_cons_succ]
      refine move_a (i := 13) (v := ?_) rfl (by kernel_rfl) (by kernel_rfl) (by kernel_rfl) (fun _ _ _ h => h) (by rfl) ?_ ?_
      rotate_left
      · (intro w; go_simp; try with_reducible rfl)
      try simp only [Act.put, List.setIfInBounds_toArray, List.set_cons_zero, List.set_cons_succ]
      refine move_e (i := 2) (by kernel_rfl) rfl (fun K hK => ?_)
      go_simp
      refine hK _ _ (fun hS => pw_cell_below (below_alloc (Below.refl _ _) _) hS) ?_
      clear hK K
      try simp only [Act.put, List.setIfInBounds_toArray, List.set_cons_zero, List.set_cons_succ]
      refine move_c (i := 9) (by kernel_rfl) rfl (by rfl) (fun K hK => ?_)
      (refine stepApp (w0 := w.drew) (base := w.drew.heap.size) rfl (.tmp 20) (.tmp 26) rfl rfl rfl (OwB.lit0 w.drew _ (Nat.le_refl _)) (RW.out.below ((Below.refl w.heap.size w).alloc (Nat.le_refl _) _).drew) (RB.out.alloc (Nat.le_refl _) _) (by simp) (by omega) ?_; intro A1 n1 c1 w1 ho hb; rw [List.nil_append] at ho; have hl1 := ho.len; rw [HLW.out] at hl1; have hl1a : n1 ≤ wn := Nat.le_of_eq hl1.symm; clear hl1; have HO1 := Lib.hid ho; have HB1 := Lib.hid hb; clear ho hb)
      refine hK _ _ ?_
      clear hK K
      try simp only [Act.put, List.setIfInBounds_toArray, List.set_cons_zero, List.set_cons_succ]
      refine move_c (i := 11) (by kernel_rfl) rfl (by rfl) (fun K hK => ?_)
      (refine stepApp (w0 := w.drew) (base := w.drew.heap.size) rfl (.tmp 27) (.tmp 28) rfl rfl rfl HO1.out (HR.out.below (DB.out.trans HB1.out)) HB1.out HB1.out.size (by omega) ?_; intro A2 n2 c2 w2 ho hb; have HO2 := Lib.hid ho; have HB2 : Hid (Below w.heap.size w w2) := Lib.hid (DB.out.trans hb); have HC := Lib.hid (H.out.below HB2.out).cells; have y1 : w2.cell? ⟨p, 2, none⟩ = some (.slice wA wn wc) := pw_cell_below HB2.out e1; have z1 := (H.out.below HB2.out).free 2; clear ho hb)
      refine hK _ _ ?_
      clear hK K
      try simp only [Act.put, List.setIfInBounds_toArray, List.set_cons_zero, List.set_cons_succ]
      refine move_a (i := 14) (v := ?_) rfl (by kernel_rfl) (by kernel_rfl) (by kernel_rfl) (fun _ _ _ h => h) (by rfl) ?_ ?_
      rotate_left
      · (intro w; go_simp; try with_reducible rfl)
      try simp only [Act.put, List.setIfInBounds_toArray, List.set_cons_zero, List.set_cons_succ]
      refine move_c (i := 15) (by kernel_rfl) rfl (by rfl) (fun K hK => ?_)
      go_simp
      refine hK _ _ ?_
      clear hK K
      try simp only [Act.put, List.setIfInBounds_toArray, List.set_cons_zero, List.set_cons_succ]
      refine move_d (by kernel_rfl) ?_
      have HF := Lib.hid (H.out.slotN HB2.out (i := 1) (x := ⟨A2, n2, c2⟩) (by omega) (OwF.of HO2.out))
      have HF1 : Hid (RAt (w2.setCell ⟨p, 2, none⟩ (.slice A2 n2 c2)) base p (upd cs 1 ⟨A2, n2, c2⟩) (putB d 1 (d.b 1 ++ ys))) := Lib.hid HF.out.1
      have HF2 : Hid (DStep w base p cs (w2.setCell ⟨p, 2, none⟩ (.slice A2 n2 c2)) (upd cs 1 ⟨A2, n2, c2⟩)) := Lib.hid HF.out.2
      have HRaw := Lib.hid (rraw_any HF1.out HD.out.n HD.out.a)
      have HAP : Hid (appD d 0 ys = gone (putB d 1 (d.b 1 ++ ys))) := Lib.hid rfl
      have hrp := rawD_put d 1 (d.b 1 ++ ys)
      rw [hrp] at HRaw
      have HG : Hid (gone (putB d 1 (d.b 1 ++ ys)) = if (rawD d).2 then offD (rawD (putB d 1 (d.b 1 ++ ys))).1 d.k else (rawD (putB d 1 (d.b 1 ++ ys))).1) := Lib.hid (by unfold gone; rw [hrp]; rfl)
      have hko := rawD_off (putB d 1 (d.b 1 ++ ys))
      have hsm : Small (rawD (putB d 1 (d.b 1 ++ ys))).1.b := by
        rw [hko.2.1]
        intro j hj
        show (upd d.b 1 (d.b 1 ++ ys) j).length ≤ _
        by_cases hji : j = 1
        · subst hji; rw [upd_same, List.length_append, hml]; exact HSZ.out _ hj
        · rw [upd_ne _ _ hji]; exact HD.out.b j hj
      have hkk : (rawD (putB d 1 (d.b 1 ++ ys))).1.k = d.k := hko.2.2
      have HKK := Lib.hid hkk
      have HSM := Lib.hid hsm
      clear hrp hko hsm hkk HF y1 z1 e1 e4 HC HSZ
      generalize (rawD d).2 = gg at HRaw HG HA
      generalize (rawD (putB d 1 (d.b 1 ++ ys))).1 = d2 at HRaw HG HKK HSM
      go_wp2_with fail
      refine HRaw.out.mono ?_
      rintro e w3 ⟨rfl, h3, s3⟩
      have S3 := Lib.hid (HF2.out.trans s3)
      have H3 := Lib.hid h3
      cases gg
      · go_wp2
        go_ret
        refine ⟨by rw [HA.out]; rfl, _, ?_, S3.out⟩
        rw [HA.out]
        show RAt _ _ _ _ (appD d 0 ys)
        rw [HAP.out, HG.out]
        exact H3.out
      · have e7 := h3.cells.2.2.2.2.2.2.2
        rw [HKK.out] at e7
        have HO := Lib.hid (roff_any h3 HSM.out d.k)
        clear h3 s3
        go_wp2_with fail
        refine HO.out.mono ?_
        rintro e w4 hret
        have HRt := Lib.hid (RetF.from S3.out hret)
        clear hret
        obtain ⟨rfl, cs4, h4, s4⟩ := HRt.out
        go_wp2
        go_ret
        refine ⟨by rw [HA.out]; rfl, cs4, ?_, s4⟩
        rw [HA.out]
        show RAt _ _ _ _ (appD d 0 ys)
        rw [HAP.out, HG.out]
        exact h4
    · have HA := Lib.hid (HA.out.trans (if_pos (by rw [show rdy d 0 = ans d.off from rdy0 0 (by omega), ho]; decide)))
      rw [show rdy d 0 = 40 from by rw [show rdy d 0 = ans d.off from rdy0 0 (by omega), ho]; rfl] at HA
      rw [ho] at e4
      simp only [Bool.not_true] at e4
      clear h hd hr hsz ho
      go_enter Tryd.func41, Tryd.ntmps41
      go_wp2
      go_ret
      exact ⟨by rw [HA.out]; rfl, cs, by rw [HA.out]; exact H.out, DStep.refl _ _ _ _⟩
  · by_cases hf1 : f = 1
    · subst hf1
      cases ho : d.off
      · have HA := Lib.hid (HA.out.trans (if_neg (by rw [show rdy d 1 = ans d.off from rdy0 1 (by omega), ho]; decide)))
        rw [ho] at e4
        simp only [Bool.not_false] at e4
        have e1 : w.cell? ⟨p, 3, none⟩ = some (.slice (cs 3).A (cs 3).n (cs 3).c) := h.cells.2.2.2.1
        have RW := Lib.hid (h.row 3 (by omega)).rd
        have HLW := Lib.hid RW.out.len
        have hl := hsz 3 (by omega)
        rw [HLW.out] at hl
        have HSZ := Lib.hid hsz
        have HD := Lib.hid hd
        have DB := Lib.hid (Below.refl w.heap.size w).drew
        have RB := Lib.hid (Below.refl w.drew.heap.size w.drew)
        clear h hd hr hsz ho
        generalize (cs 3).A = wA at *
        generalize (cs 3).n = wn at *
        generalize (cs 3).c = wc at *
        go_enter Tryd.func41, Tryd.ntmps41
        go_wp2_with fail
        refine begin_ (fun W : World => W.cell? ⟨p, 3, none⟩ = some (.slice wA wn wc)) [9, 11, 15] (by kernel_rfl) ?_
        have hSw : (fun W : World => W.cell? ⟨p, 3, none⟩ = some (.slice wA wn wc)) w.drew := e1
        simp only [List.size_toArray, List.length_cons, List.length_nil, Nat.reduceAdd, Array.replicate_succ, Array.replicate_zero, List.push_toArray, List.append_toArray, List.nil_append, List.cons_append]
        refine move_a (i := 0) (v := ?_) rfl (by kernel_rfl) (by kernel_rfl) (by kernel_rfl) (fun _ _ _ h => h) (by rfl) ?_ ?_
        rotate_left
        · (intro w; go_simp; try with_reducible rfl)
        try simp only [Act.put, List.setIfInBounds_toArray, List.set_cons_zero, List.set_cons_succ]
        refine move_a (i := 1) (v := ?_) rfl (by kernel_rfl) (by kernel_rfl) (by kernel_rfl) (fun _ _ _ h => h) (by rfl) ?_ ?_
        rotate_left
        · (intro w; go_simp; try with_reducible rfl)
        try simp only [Act.put, List.setIfInBounds_toArray, List.set_cons_zero, List.set_cons_succ]
        refine move_a (i := 3) (v := ?_) rfl (by kernel_rfl) (by kernel_rfl) (by kernel_rfl) (fun _ _ _ h => h) (by rfl) ?_ ?_
        rotate_left
        · (intro w; go_simp; try with_reducible rfl)
        try simp only [Act.put, List.setIfInBounds_toArray, List.set_cons_zero, List.set_cons_succ]
        refine move_a (i := 4) (v := ?_) rfl (by kernel_rfl) (by kernel_rfl) (by kernel_rfl) (fun _ _ _ h => h) (by rfl) ?_ ?_
        rotate_left
        · (intro w; go_simp; try with_reducible rfl)
        try simp only [Act.put, List.setIfInBounds_toArray, List.set_cons_zero, List.set_cons_succ]
        refine move_a (i := 5) (v := ?_) rfl (by kernel_rfl) (by kernel_rfl) (by kernel_rfl) (fun _ _ _ h => h) (by rfl) ?_ ?_
        rotate_left
        · (intro w; go_simp; try with_reducible rfl)
        try simp only [Act.put, List.setIfInBounds_toArray, List.set_cons_zero, List.set_cons_succ]
        refine move_a (i := 6) (v := ?_) rfl (by kernel_rfl) (by kernel_rfl) (by kernel_rfl) (fun _ _ _ h => h) (by rfl) ?_ ?_
        rotate_left
        · (intro w; go_simp; try with_reducible rfl)
        try simp only [Act.put, List.setIfInBounds_toArray, List.set_cons_zero, List.set_cons_succ]
        refine move_a (i := 7) (v := ?_) rfl (by kernel_rfl) (by kernel_rfl) (by kernel_rfl) (fun _ _ _ h => h) (by rfl) ?_ ?_
        rotate_left
        · (intro w; go_simp; try with_reducible rfl)
        try simp only [Act.put, List.setIfInBounds_toArray, List.set_cons_zero, List.set_cons_succ]
        refine move_b [9, 11, 15] [9, 11, 15] (i := 8) (v := ?_) rfl (by kernel_rfl) (by kernel_rfl) (by kernel_rfl) (fun _ _ _ h => h) (by kernel_rfl) (by kernel_rfl) (by kernel_rfl) (by rfl) ?_ hSw ?_
        rotate_left
        · (intro w hSw; (try dsimp only at hSw); go_simp; try with_reducible rfl)
        try simp only [Act.put, List.setIfInBounds_toArray, List.set_cons_zero, List.set_cons_succ]
        refine move_a (i := 10) (v := ?_) rfl (by kernel_rfl) (by kernel_rfl) (by kernel_rfl) (fun _ _ _ h => h) (by rfl) ?_ ?_
        rotate_left
        · (intro w; go_simp; try with_reducible rfl)
        try simp only [Act.put, List.setIfInBounds_toArray, List.set_cons_zero, List.set_cons_succ]
        refine move_a (i := 12) (v := ?_) rfl (by kernel_rfl) (by kernel_rfl) (by kernel_rfl) (fun _ _ _ h => h) (by rfl) ?_ ?_
        rotate_left
        · (intro w; go_simp; try with_reducible rfl)
        try simp only [Act.put, List.setIfInBounds_toArray, List.set_cons_zero, List.set_cons_succ]
        refine move_a (i := 13) (v := ?_) rfl (by kernel_rfl) (by kernel_rfl) (by kernel_rfl) (fun _ _ _ h => h) (by rfl) ?_ ?_
        rotate_left
        · (intro w; go_simp; try with_reducible rfl)
        try simp only [Act.put, List.setIfInBounds_toArray, List.set_cons_zero, List.set_cons_succ]
        refine move_e (i := 2) (by kernel_rfl) rfl (fun K hK => ?_)
        go_simp
        refine hK _ _ (fun hS => pw_cell_below (below_alloc (Below.refl _ _) _) hS) ?_
        clear hK K
        try simp only [Act.put, List.setIfInBounds_toArray, List.set_cons_zero, List.set_cons_succ]
        refine move_c (i := 9) (by kernel_rfl) rfl (by rfl) (fun K hK => ?_)
        (refine stepApp (w0 := w.drew) (base := w.drew.heap.size) rfl (.tmp 20) (.tmp 26) rfl rfl rfl (OwB.lit0 w.drew _ (Nat.le_refl _)) (RW.out.below ((Below.refl w.heap.size w).alloc (Nat.le_refl _) _).drew) (RB.out.alloc (Nat.le_refl _) _) (by simp) (by omega) ?_; intro A1 n1 c1 w1 ho hb; rw [List.nil_append] at ho; have hl1 := ho.len; rw [HLW.out] at hl1; have hl1a : n1 ≤ wn := Nat.le_of_eq hl1.symm; clear hl1; have HO1 := Lib.hid ho; have HB1 := Lib.hid hb; clear ho hb)
        refine hK _ _ ?_
        clear hK K
        try simp only [Act.put, List.setIfInBounds_toArray, List.set_cons_zero, List.set_cons_succ]
        refine move_c (i := 11) (by kernel_rfl) rfl (by rfl) (fun K hK => ?_)
        (refine stepApp (w0 := w.drew) (base := w.drew.heap.size) rfl (.tmp 27) (.tmp 28) rfl rfl rfl HO1.out (HR.out.below (DB.out.trans HB1.out)) HB1.out HB1.out.size (by omega) ?_; intro A2 n2 c2 w2 ho hb; have HO2 := Lib.hid ho; have HB2 : Hid (Below w.heap.size w w2) := Lib.hid (DB.out.trans hb); have HC := Lib.hid (H.out.below HB2.out).cells; have y1 : w2.cell? ⟨p, 3, none⟩ = some (.slice wA wn wc) := pw_cell_below HB2.out e1; have z1 := (H.out.below HB2.out).free 3; clear ho hb)
        refine hK _ _ ?_
        clear hK K
        try simp only [Act.put, List.setIfInBounds_toArray, List.set_cons_zero, List.set_cons_succ]
        refine move_a (i := 14) (v := ?_) rfl (by kernel_rfl) (by kernel_rfl) (by kernel_rfl) (fun _ _ _ h => h) (by rfl) ?_ ?_
        rotate_left
        · (intro w; go_simp; try with_reducible rfl)
        try simp only [Act.put, List.setIfInBounds_toArray, List.set_cons_zero, List.set_cons_succ]
        refine move_c (i := 15) (by kernel_rfl) rfl (by rfl) (fun K hK => ?_)
        go_simp
        refine hK _ _ ?_
        clear hK K
        try simp only [Act.put, List.setIfInBounds_toArray, List.set_cons_zero, List.set_cons_succ]
        refine move_d (by kernel_rfl) ?_
        have HF := Lib.hid (H.out.slotN HB2.out (i := 3) (x := ⟨A2, n2, c2⟩) (by omega) (OwF.of HO2.out))
        have HF1 : Hid (RAt (w2.setCell ⟨p, 3, none⟩ (.slice A2 n2 c2)) base p (upd cs 3 ⟨A2, n2, c2⟩) (putB d 3 (d.b 3 ++ ys))) := Lib.hid HF.out.1
        have HF2 : Hid (DStep w base p cs (w2.setCell ⟨p, 3, none⟩ (.slice A2 n2 c2)) (upd cs 3 ⟨A2, n2, c2⟩)) := Lib.hid HF.out.2
        have HRaw := Lib.hid (rraw_any HF1.out HD.out.n HD.out.a)
        have HAP : Hid (appD d 1 ys = gone (putB d 3 (d.b 3 ++ ys))) := Lib.hid rfl
        have hrp := rawD_put d 3 (d.b 3 ++ ys)
        rw [hrp] at HRaw
        have HG : Hid (gone (putB d 3 (d.b 3 ++ ys)) = if (rawD d).2 then offD (rawD (putB d 3 (d.b 3 ++ ys))).1 d.k else (rawD (putB d 3 (d.b 3 ++ ys))).1) := Lib.hid (by unfold gone; rw [hrp]; rfl)
        have hko := rawD_off (putB d 3 (d.b 3 ++ ys))
        have hsm : Small (rawD (putB d 3 (d.b 3 ++ ys))).1.b := by
          rw [hko.2.1]
          intro j hj
          show (upd d.b 3 (d.b 3 ++ ys) j).length ≤ _
          by_cases hji : j = 3
          · subst hji; rw [upd_same, List.length_append, hml]; exact HSZ.out _ hj
          · rw [upd_ne _ _ hji]; exact HD.out.b j hj
        have hkk : (rawD (putB d 3 (d.b 3 ++ ys))).1.k = d.k := hko.2.2
        have HKK := Lib.hid hkk
        have HSM := Lib.hid hsm
        clear hrp hko hsm hkk HF y1 z1 e1 e4 HC HSZ
        generalize (rawD d).2 = gg at HRaw HG HA
        generalize (rawD (putB d 3 (d.b 3 ++ ys))).1 = d2 at HRaw HG HKK HSM
        go_wp2_with fail
        refine HRaw.out.mono ?_
        rintro e w3 ⟨rfl, h3, s3⟩
        have S3 := Lib.hid (HF2.out.trans s3)
        have H3 := Lib.hid h3
        cases gg
        · go_wp2
          go_ret
          refine ⟨by rw [HA.out]; rfl, _, ?_, S3.out⟩
          rw [HA.out]
          show RAt _ _ _ _ (appD d 1 ys)
          rw [HAP.out, HG.out]
          exact H3.out
        · have e7 := h3.cells.2.2.2.2.2.2.2
          rw [HKK.out] at e7
          have HO := Lib.hid (roff_any h3 HSM.out d.k)
          clear h3 s3
          go_wp2_with fail
          refine HO.out.mono ?_
          rintro e w4 hret
          have HRt := Lib.hid (RetF.from S3.out hret)
          clear hret
          obtain ⟨rfl, cs4, h4, s4⟩ := HRt.out
          go_wp2
          go_ret
          refine ⟨by rw [HA.out]; rfl, cs4, ?_, s4⟩
          rw [HA.out]
          show RAt _ _ _ _ (appD d 1 ys)
          rw [HAP.out, HG.out]
          exact h4
      · have HA := Lib.hid (HA.out.trans (if_pos (by rw [show rdy d 1 = ans d.off from rdy0 1 (by omega), ho]; decide)))
        rw [show rdy d 1 = 40 from by rw [show rdy d 1 = ans d.off from rdy0 1 (by omega), ho]; rfl] at HA
        rw [ho] at e4
        simp only [Bool.not_true] at e4
        clear h hd hr hsz ho
        go_enter Tryd.func41, Tryd.ntmps41
        go_wp2
        go_ret
        exact ⟨by rw [HA.out]; rfl, cs, by rw [HA.out]; exact H.out, DStep.refl _ _ _ _⟩
    · have HA := Lib.hid (HA.out.trans (if_pos (by rw [rdy_bad hf0 hf1]; decide)))
      rw [rdy_bad hf0 hf1] at HA
      have hb0 : (f != 0) = true := by simp [hf0]
      have hb1 : (f != 1) = true := by simp [hf1]
      clear h hd hr hsz hf0 hf1 e4
      go_enter Tryd.func41, Tryd.ntmps41
      go_wp2
      go_ret
      exact ⟨by rw [HA.out]; rfl, cs, by rw [HA.out]; exact H.out, DStep.refl _ _ _ _⟩
end Go.Proofs.YtfinaikgikifcaaDoor.refw
