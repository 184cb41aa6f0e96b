/- The document's Open; and what is proved besides: see the words ahead of each part. -/
import Derived.Test.YtfinaikgikifcaaDoorVaultDoesMg5
set_option linter.unusedVariables false
set_option linter.unusedSimpArgs false
/- The document's Open. -/
namespace Go.Proofs.YtfinaikgikifcaaDoor.vref
open Go.RowKit Go.Shelf Go.Proofs.YtfinaikgikifcaaDoorW.PrintWords Go.Proofs.YtfinaikgikifcaaDoor.base Go.Proofs.YtfinaikgikifcaaDoor.mem Go.Proofs.YtfinaikgikifcaaDoor.keep Go.Proofs.YtfinaikgikifcaaDoor.samew Go.Proofs.YtfinaikgikifcaaDoor.framep Go.Proofs.YtfinaikgikifcaaDoor.framew Go.Proofs.YtfinaikgikifcaaDoor.frameit Go.Proofs.YtfinaikgikifcaaDoor.framem Go.Proofs.YtfinaikgikifcaaDoor.framel Go.Proofs.YtfinaikgikifcaaDoor.framea Go.Proofs.YtfinaikgikifcaaDoor.framer Go.Proofs.YtfinaikgikifcaaDoor.framek Go.Proofs.YtfinaikgikifcaaDoor.framen Go.Proofs.YtfinaikgikifcaaDoor.diskp Go.Proofs.YtfinaikgikifcaaDoor.diskr Go.Proofs.YtfinaikgikifcaaDoor.diskw Go.Proofs.YtfinaikgikifcaaDoor.refr Go.Proofs.YtfinaikgikifcaaDoor.refw Go.Proofs.YtfinaikgikifcaaDoor.vaultp Go.Proofs.YtfinaikgikifcaaDoor.vaulta Go.Proofs.YtfinaikgikifcaaDoor.vaultr Go.Proofs.YtfinaikgikifcaaDoor.vaultl Go.Proofs.YtfinaikgikifcaaDoor.vaulto Go.Proofs.YtfinaikgikifcaaDoor.clone

theorem wipe_nil {d : D} {f : Int} {m : Nat} (h : m = 0) : wipeR d f m = (d, 0) := if_pos (by omega)
theorem wipe_cut {d : D} {f : Int} {m : Nat} (h : 0 < m) : wipeR d f m = cutR d f 0 := if_neg (by omega)
theorem mend_s {d : D} {f en sz : Int} (h : ¬ en < sz) : mendR d f en sz = syncR d f := if_neg h
theorem mend_c {d : D} {f en sz : Int} {r : D × Int} (h : en < sz) (hc : cutR d f en = r) (hr : r.2 ≠ 0) : mendR d f en sz = r := by unfold mendR; rw [if_pos h, hc, if_neg hr]
theorem mend_cs {d d2 : D} {f en sz : Int} (h : en < sz) (hc : cutR d f en = (d2, 0)) : mendR d f en sz = syncR d2 f := by unfold mendR; rw [if_pos h, hc, if_pos rfl]
section
variable {d d1 d2 d3 : D} {s : List Int} {r : D × Int}
theorem new_w (h : wipeR d 0 (fileB d 0).length = r) (hr : r.2 ≠ 0) : newR d s = ⟨r.1, r.2, noV⟩ := by unfold newR; rw [h, if_pos hr]
theorem new_a (h : wipeR d 0 (fileB d 0).length = (d1, 0)) (h2 : appR d1 0 (firstB 1 s) = r) (hr : r.2 ≠ 0) : newR d s = ⟨r.1, r.2, noV⟩ := by
  have hb : beginR d1 0 (firstB 1 s) = r := by unfold beginR; rw [h2, if_neg hr]
  unfold newR
  rw [h, if_neg (by simp)]
  show (if (beginR d1 0 (firstB 1 s)).2 ≠ 0 then _ else _) = _
  rw [hb, if_pos hr]
theorem new_s (h : wipeR d 0 (fileB d 0).length = (d1, 0)) (h2 : appR d1 0 (firstB 1 s) = (d2, 0)) (h3 : syncR d2 0 = r) (hr : r.2 ≠ 0) : newR d s = ⟨r.1, r.2, noV⟩ := by
  have hb : beginR d1 0 (firstB 1 s) = r := by unfold beginR; rw [h2, if_pos rfl, h3]
  unfold newR
  rw [h, if_neg (by simp)]
  show (if (beginR d1 0 (firstB 1 s)).2 ≠ 0 then _ else _) = _
  rw [hb, if_pos hr]
theorem new_l (h : wipeR d 0 (fileB d 0).length = (d1, 0)) (h2 : appR d1 0 (firstB 1 s) = (d2, 0)) (h3 : syncR d2 0 = (d3, 0)) : newR d s = ⟨(wipeR d3 1 (fileB d 1).length).1, (wipeR d3 1 (fileB d 1).length).2, ⟨0, 1, s, []⟩⟩ := by
  have hb : beginR d1 0 (firstB 1 s) = (d3, 0) := by unfold beginR; rw [h2, if_pos rfl, h3]
  unfold newR
  rw [h, if_neg (by simp)]
  show (if (beginR d1 0 (firstB 1 s)).2 ≠ 0 then _ else _) = _
  rw [hb, if_neg (by simp)]
theorem old_w {f : Nat} (h : wipeR d ((1 : Int) - f) (fileB d (1 - f)).length = r) (hr : r.2 ≠ 0) : oldR d f = ⟨r.1, r.2, noV⟩ := by unfold oldR; rw [h, if_pos hr]
theorem old_m {f : Nat} (h : wipeR d ((1 : Int) - f) (fileB d (1 - f)).length = (d1, 0)) (h2 : mendR d1 f (E (fileB d f) : Nat) (fileB d f).length = r) : oldR d f = ⟨r.1, r.2, ⟨f, (lookF (fileB d f)).1, (lookF (fileB d f)).2.1, (lookF (fileB d f)).2.2⟩⟩ := by
  unfold oldR
  rw [h, if_neg (by simp)]
  show (⟨(mendR d1 f (E (fileB d f) : Nat) (fileB d f).length).1, _, _⟩ : Opn) = _
  rw [h2]
theorem open_new (hs : ¬ 1048576 < 8 + s.length) (ho : d.off = false) (hp : ¬ (lookF (fileB d 0)).1 < (lookF (fileB d 1)).1) (hg : (lookF (fileB d 0)).1 = 0) : openR d s = newR d s := by
  unfold openR pick
  rw [if_neg hs, ho, if_neg (by simp), if_neg hp, if_pos hg]
theorem open_old0 (hs : ¬ 1048576 < 8 + s.length) (ho : d.off = false) (hp : ¬ (lookF (fileB d 0)).1 < (lookF (fileB d 1)).1) (hg : (lookF (fileB d 0)).1 ≠ 0) : openR d s = oldR d 0 := by
  unfold openR pick
  rw [if_neg hs, ho, if_neg (by simp), if_neg hp, if_neg hg]
theorem open_old1 (hs : ¬ 1048576 < 8 + s.length) (ho : d.off = false) (hp : (lookF (fileB d 0)).1 < (lookF (fileB d 1)).1) (hg : (lookF (fileB d 1)).1 ≠ 0) : openR d s = oldR d 1 := by
  unfold openR pick
  rw [if_neg hs, ho, if_neg (by simp), if_pos hp, if_neg hg]
end
/-- behind the document's Open -/
def RetRO (w : World) (base p : Nat) (cs : Nat → Sl) (r : Opn) (e : Ending) (w' : World) : Prop :=
  (r.e ≠ 0 ∧ e = .returned (.tuple #[.pointer none, .int .i64 r.e]) ∧ RPost w base p cs r.d w') ∨
  (r.e = 0 ∧ ∃ q cs' P, e = .returned (.tuple #[.pointer (some ⟨q, 0, none⟩), .int .i64 0]) ∧ RVs w' base p q cs' P r.d ⟨r.v.f, r.v.g, (r.v.r.length : Nat), 0⟩ r.v.s r.v.r ∧ DStep w base p cs w' cs' ∧ w.heap.size ≤ q ∧ ∀ i, P i → w.heap.size ≤ i)
theorem RetRO.no {w w' : World} {base p : Nat} {cs cs' : Nat → Sl} {r : Opn} {d' : D} {x : Int} {v : Vt} (h : r = ⟨d', x, v⟩) (hx : x ≠ 0) (h1 : RAt w' base p cs' d') (h2 : DStep w base p cs w' cs') : RetRO w base p cs r (.returned (.tuple #[.pointer none, .int .i64 x])) w' := by
  subst h
  exact .inl ⟨hx, rfl, cs', h1, h2⟩
theorem RetRO.yes {w w' : World} {base p q : Nat} {cs cs' : Nat → Sl} {P : Nat → Prop} {r : Opn} {d' : D} {v : Vt} (h : r = ⟨d', 0, v⟩) {n' : Int} (h1 : RVs w' base p q cs' P d' ⟨v.f, v.g, n', 0⟩ v.s v.r) (h2 : DStep w base p cs w' cs') (hq : w.heap.size ≤ q) (hP : ∀ i, P i → w.heap.size ≤ i) : RetRO w base p cs r (.returned (.tuple #[.pointer (some ⟨q, 0, none⟩), .int .i64 0])) w' := by
  subst h
  exact .inr ⟨rfl, q, cs', P, rfl, h1.n _, h2, hq, hP⟩
theorem look_range (xs : List Int) : 0 ≤ (lookF xs).1 ∧ (lookF xs).1 ≤ 4611686018427387904 := lookP_range
theorem call_cut {w : World} {base p : Nat} {cs : Nat → Sl} {d : D} (h : RAt w base p cs d) (hd : Fit d) (f n : Int) (hn : -9223372036854775808 ≤ n ∧ n ≤ 9223372036854775807) {r : D × Int} (hr : cutR d f n = r) :
    Calls Tryd.prog 44 #[.pointer (some ⟨p, 0, none⟩), .int .i64 f, .int .i64 n] w (refr.RetF w base p cs (.int .i64 r.2) r.1) := by
  subst hr
  exact rtrunc_any h hd f n hn
theorem call_sync {w : World} {base p : Nat} {cs : Nat → Sl} {d : D} (h : RAt w base p cs d) (hd : Fit d) (f : Int) {r : D × Int} (hr : syncR d f = r) :
    Calls Tryd.prog 42 #[.pointer (some ⟨p, 0, none⟩), .int .i64 f] w (refr.RetF w base p cs (.int .i64 r.2) r.1) := by
  subst hr
  exact rsync_any h hd f
theorem call_app {w : World} {base p : Nat} {cs : Nat → Sl} {d : D} (h : RAt w base p cs d) (hd : Fit d) (f : Int) (A : Option Addr) (m c : Nat) (ys : List Int) (hr : RdB w A m ys) (hsz : ∀ i, i < 4 → (d.b i).length + m ≤ 70368744177664) {r : D × Int} (hrr : appR d f ys = r) :
    Calls Tryd.prog 41 #[.pointer (some ⟨p, 0, none⟩), .int .i64 f, .slice A m c] w (refr.RetF w base p cs (.int .i64 r.2) r.1) := by
  subst hrr
  exact rappend_any h hd f A m c ys hr hsz
set_option maxHeartbeats 8000000 in
set_option maxRecDepth 100000 in
theorem rvopen_any {w : World} {base p : Nat} {cs : Nat → Sl} {d : D} {S N : Nat} (h : RAt w base p cs d) (hk : Ok d S N) (A : Option Addr) (n c : Nat) (s : List Int) (hsn : ∀ (w' : World) (cs' : Nat → Sl), DStep w base p cs w' cs' → RdB w' A n s) (hn : n + 8 ≤ 140737488355328) (hS : S + 1048584 ≤ 8796093022208) (hN : N + 4 ≤ 4611686018427387904) :
    Calls Tryd.prog 29 #[.pointer (some ⟨p, 0, none⟩), .slice A n c] w (RetRO w base p cs (openR d s)) := by
  have hr := hsn w cs (DStep.refl _ _ _ _)
  have hl := hr.len
  have HSN := Lib.hid hsn
  have HF := Lib.hid (rfirst_any 1 (by omega) A n c s w hr hn)
  have H := Lib.hid h
  have HK := Lib.hid hk
  have hbs := h.base_le
  have hz0 : (fileB d 0).length ≤ S := by have := hk.s.1; unfold fileB; rw [List.length_append]; exact this
  have hz1 : (fileB d 1).length ≤ S := by have := hk.s.2; unfold fileB; rw [List.length_append]; exact this
  have hE0 := E_le (fileB d 0)
  have hE1 := E_le (fileB d 1)
  have hG0 := look_range (fileB d 0)
  have hG1 := look_range (fileB d 1)
  clear h hk hr hsn
  by_cases hlong : 1048576 < 8 + s.length
  · have HO : Hid (openR d s = ⟨d, 3, noV⟩) := Lib.hid (if_pos hlong)
    rw [firstR_long hlong] at HF
    go_enter Tryd.func29, Tryd.ntmps29
    go_wp2_with fail
    refine HF.out.mono ?_
    rintro e w2 ⟨A2, n2, c2, rfl, ho, hb⟩
    have H2 := Lib.hid (H.out.below hb)
    have S2 := Lib.hid (DStep.below (p := p) (cs := cs) hb hbs)
    clear ho hb
    go_wp2
    refine bodyPost_ret (results_tmp2 rfl _ _ _) rfl ?_
    exact RetRO.no HO.out (by decide) H2.out S2.out
  have HLO := Lib.hid hlong
  rw [firstR_ok hlong] at HF
  have HFB : Hid ((firstB 1 s).length = 8 + (8 + n)) := Lib.hid (by unfold firstB; rw [fenc_len, List.length_append, le8_len]; omega)
  go_enter Tryd.func29, Tryd.ntmps29
  go_wp2_with fail
  refine HF.out.mono ?_
  rintro e w2 ⟨A2, n2, c2, rfl, ho, hb⟩
  have HO2 := Lib.hid ho
  have hl2 := ho.len
  rw [HFB.out] at hl2
  have H2 := Lib.hid (H.out.below hb)
  have S2 := Lib.hid (DStep.below (p := p) (cs := cs) hb hbs)
  have hs2 := hb.size
  clear ho hb HF
  have e4 := H2.out.cells.2.2.2.2.1
  cases hoff : d.off
  case true =>
    have HO : Hid (openR d s = ⟨d, 40, noV⟩) := Lib.hid (by unfold openR; rw [if_neg HLO.out, hoff, if_pos rfl])
    rw [hoff] at e4
    simp only [Bool.not_true] at e4
    clear hoff
    go_wp2
    refine bodyPost_ret (results_tmp2 rfl _ _ _) rfl ?_
    exact RetRO.no HO.out (by decide) H2.out S2.out
  have HOFF := Lib.hid hoff
  rw [hoff] at e4
  simp only [Bool.not_false] at e4
  clear hoff
  have HB : Hid (∀ i, i < 2 → (fileB d i).length ≤ 8796093022208) := Lib.hid fun i hi => by
    match i, hi with
    | 0, _ => omega
    | 1, _ => omega
  have HA0 := Lib.hid (rall0 H2.out (HK.out.fit (by omega) (by omega)).b)
  go_wp2_with fail
  refine HA0.out.mono ?_
  rintro e w3 ⟨A3, n3, c3, rfl, ho, hb⟩
  have hs3 := hb.size
  have H3 := Lib.hid (H2.out.below hb)
  have S3 := Lib.hid (S2.out.trans (DStep.below (p := p) (cs := cs) hb (Nat.le_trans hbs hs2)))
  have HO3 := Lib.hid (HO2.out.below hb)
  have HL0 := Lib.hid (rlook_any A3 n3 c3 (fileB d 0) w3 ho.rd ho.cap (by rw [← ho.len]; exact HB.out 0 (by omega)))
  clear ho hb e4
  go_wp2_with fail
  refine HL0.out.mono ?_
  rintro e w4 ⟨A4, n4, c4, B4, m4, e4, cells4, rfl, hsn4, hwn4, hrw4, hb⟩
  have hs4 := hb.size
  have H4 := Lib.hid (H3.out.below hb)
  have S4 := Lib.hid (S3.out.trans (DStep.below (p := p) (cs := cs) hb (by omega)))
  have HO4 := Lib.hid (HO3.out.below hb)
  have HS4 := Lib.hid hsn4
  have HW4 := Lib.hid hwn4
  have HR4 := Lib.hid hrw4
  clear hsn4 hwn4 hrw4 hb HL0 HA0
  have HA1 := Lib.hid (rall1 H4.out (HK.out.fit (by omega) (by omega)).b)
  go_wp2_with fail
  refine HA1.out.mono ?_
  rintro e w5 ⟨A5, n5, c5, rfl, ho, hb⟩
  have hs5 := hb.size
  have H5 := Lib.hid (H4.out.below hb)
  have S5 := Lib.hid (S4.out.trans (DStep.below (p := p) (cs := cs) hb (by omega)))
  have HO5 := Lib.hid (HO4.out.below hb)
  have HS5 := Lib.hid (HS4.out.below hb)
  have HW5 := Lib.hid (HW4.out.below hb)
  have HR5 := Lib.hid (HR4.out.map fun a m c ys h => h.below hb)
  have HL1 := Lib.hid (rlook_any A5 n5 c5 (fileB d 1) w5 ho.rd ho.cap (by rw [← ho.len]; exact HB.out 1 (by omega)))
  clear ho hb HS4 HW4 HR4
  go_wp2_with fail
  refine HL1.out.mono ?_
  rintro e w6 ⟨A6, n6, c6, B6, m6, e6, cells6, rfl, hsn6, hwn6, hrw6, hb⟩
  have hs6 := hb.size
  have H6 := Lib.hid (H5.out.below hb)
  have S6 := Lib.hid (S5.out.trans (DStep.below (p := p) (cs := cs) hb (by omega)))
  have HO6 := Lib.hid (HO5.out.below hb)
  have HS6 := Lib.hid (HS5.out.below hb)
  have HW6 := Lib.hid (HW5.out.below hb)
  have HR6 := Lib.hid (HR5.out.map fun a m c ys h => h.below hb)
  have HT6 := Lib.hid hsn6
  have HX6 := Lib.hid hwn6
  have HY6 := Lib.hid hrw6
  clear hsn6 hwn6 hrw6 hb HL1 HA1 HS5 HW5 HR5
  have HFT : Hid (∀ i, Ft p cs i → i < w.heap.size) := Lib.hid fun i hi => (H.out.ft hi).2
  obtain ⟨g0, hg0⟩ : ∃ g, (lookF (fileB d 0)).1 = g := ⟨_, rfl⟩
  obtain ⟨g1, hg1⟩ : ∃ g, (lookF (fileB d 1)).1 = g := ⟨_, rfl⟩
  have HG0 := Lib.hid hg0
  have HG1 := Lib.hid hg1
  rw [hg0, hg1]
  rw [hg0] at hG0
  rw [hg1] at hG1
  obtain ⟨en0, hen0⟩ : ∃ g, E (fileB d 0) = g := ⟨_, rfl⟩
  obtain ⟨en1, hen1⟩ : ∃ g, E (fileB d 1) = g := ⟨_, rfl⟩
  have HEN0 := Lib.hid hen0
  have HEN1 := Lib.hid hen1
  rw [hen0, hen1]
  rw [hen0] at hE0
  rw [hen1] at hE1
  clear hg0 hg1 hen0 hen1
  have HM := Lib.hid (RVs.make (lo := w3.heap.size) H6.out (fun i hi => by have := HFT.out i hi; omega) (by omega) (by omega) HS6.out HW6.out HR6.out 0 g0 0)
  have B7 := Lib.hid (below_alloc (Below.refl w6.heap.size w6) (.cells #[.pointer (some ⟨p, 0, none⟩), .int .i64 0, .int .i64 g0, .slice A4 n4 c4, .slice B4 m4 e4, .int .i64 0] 55))
  have hs7 := B7.out.size
  by_cases hlt : g0 < g1
  · have hdec : decide (g0 < g1) = true := decide_eq_true hlt
    have H7 := Lib.hid (H6.out.below B7.out)
    have HM1 := Lib.hid (RVs.make (lo := w5.heap.size) H7.out (fun i hi => by have := HFT.out i hi; omega) (by omega) (by omega) (HT6.out.below B7.out) (HX6.out.below B7.out) (HY6.out.map fun a m c ys h => h.below B7.out) 1 g1 0)
    have S7 := Lib.hid (S6.out.trans (DStep.below (p := p) (cs := cs) B7.out (by omega)))
    have HLT := Lib.hid hlt
    have hgb : (g1 == 0) = false := beq_eq_false_iff_ne.2 (by omega)
    have HGZ : Hid (g1 ≠ 0) := Lib.hid (by omega)
    clear hlt
    go_upto_region 12 with fail
    generalize w6.alloc (.cells #[.pointer (some ⟨p, 0, none⟩), .int .i64 0, .int .i64 g0, .slice A4 n4 c4, .slice B4 m4 e4, .int .i64 0] 55) = w7 at B7 hs7 H7 HM1 S7 ⊢
    have B8 := Lib.hid (below_alloc (Below.refl w7.heap.size w7) (.cells #[.pointer (some ⟨p, 0, none⟩), .int .i64 1, .int .i64 g1, .slice A6 n6 c6, .slice B6 m6 e6, .int .i64 0] 55))
    have hs8 := B8.out.size
    have H9 := HM1
    have hq9 : w.heap.size ≤ w7.heap.size := by omega
    have S9 := Lib.hid (S7.out.trans (DStep.below (p := p) (cs := cs) B8.out (by omega)))
    have hw9 : w.heap.size ≤ (w7.alloc (.cells #[.pointer (some ⟨p, 0, none⟩), .int .i64 1, .int .i64 g1, .slice A6 n6 c6, .slice B6 m6 e6, .int .i64 0] 55)).heap.size := by omega
    have hPQ : ∀ i, (w5.heap.size ≤ i ∧ i < w7.heap.size) → w.heap.size ≤ i := fun i hi => by omega
    have HOP := Lib.hid (open_old1 HLO.out HOFF.out (by rw [HG0.out, HG1.out]; exact HLT.out) (by rw [HG1.out]; exact HGZ.out))
    go_upto_region 14 with fail
    generalize w7.alloc (.cells #[.pointer (some ⟨p, 0, none⟩), .int .i64 1, .int .i64 g1, .slice A6 n6 c6, .slice B6 m6 e6, .int .i64 0] 55) = w9 at H9 S9 hw9 ⊢
    generalize hqq : w7.heap.size = q at H9 hq9 hPQ ⊢
    clear hqq hs8 B8 HM1
    generalize hPP : (fun i => w5.heap.size ≤ i ∧ i < q) = P at H9
    have HPQ : Hid (∀ i, P i → w.heap.size ≤ i) := Lib.hid fun i hi => by rw [← hPP] at hi; exact hPQ i hi
    clear hPP hPQ
    have T9 : Hid (RVt w9 base p q cs P w9 cs P) := Lib.hid RVt.refl
    have hw0 : IntKind.i64.wrap 0 = 0 := rfl
    have hw1 : IntKind.i64.wrap 1 = 1 := rfl
    obtain ⟨Aa, na, ca, Ba, ma, ea, cellsa, hbx, hsn, hrc⟩ := H9.out.ex
    obtain ⟨x0, x1, x2, x3, x4, x5⟩ := hbx.cells
    clear hbx hsn hrc x0 x3 x4 x5
    have HALL := Lib.hid (rall0 H9.out.at_ (HK.out.fit (by omega) (by omega)).b)
    go_wp2_with fail
    refine HALL.out.mono ?_
    rintro e w10 ⟨A10, n10, c10, rfl, ho, hb⟩
    have hl10 := ho.len
    have H10 := Lib.hid (H9.out.below hb)
    have T10 := Lib.hid (T9.out.trans (RVt.below hb (by omega)))
    have S10 := Lib.hid (S9.out.trans (DStep.below (p := p) (cs := cs) hb (by omega)))
    clear ho hb HALL x1 x2
    by_cases hz : n10 = 0
    · subst hz
      have HWI : Hid (wipeR d ((1 : Int) - (1 : Nat)) (fileB d (1 - 1)).length = (d, 0)) := Lib.hid (wipe_nil hl10)
      have HFB1 : Hid (fileB d 1 = fileB d 1) := Lib.hid rfl
      have HK1 : Hid (Ok d S (N + 1)) := Lib.hid (HK.out.more (by omega) (by omega))
      clear hl10
      obtain ⟨Ab, nb, cb, Bb, mb, eb, cellsb, hbx, hsn, hrc⟩ := H10.out.ex
      obtain ⟨x0, x1, x2, x3, x4, x5⟩ := hbx.cells
      clear hbx hsn hrc x0 x2 x3 x4 x5
      have hbk : base ≤ w10.heap.size := H10.out.at_.base_le
      have HALL2 := Lib.hid (rall1 H10.out.at_ (HK1.out.fit (by omega) (by omega)).b)
      rw [HFB1.out] at HALL2
      go_wp2_with fail
      refine HALL2.out.mono ?_
      rintro e w11 ⟨A11, n11, c11, rfl, ho, hb⟩
      have hl11 := ho.len
      have H11 := Lib.hid (H10.out.below hb)
      have T11 := Lib.hid (T10.out.trans (RVt.below hb hbk))
      have S11 := Lib.hid (S10.out.trans (DStep.below (p := p) (cs := cs) hb hbk))
      clear ho hb HALL2 x1 hbk
      obtain ⟨Ac, nc, cc, Bc, mc, ec, cellsc, hbx, hsn, hrc⟩ := H11.out.ex
      obtain ⟨x0, x1, x2, x3, x4, x5⟩ := hbx.cells
      clear hbx hsn hrc x0 x2 x3 x4 x5
      by_cases hcut : en1 < n11
      · have hci : decide ((en1 : Int) < (n11 : Int)) = true := decide_eq_true (by omega)
        obtain ⟨⟨d2, y1⟩, hcr⟩ : ∃ r, cutR d 1 (en1 : Nat) = r := ⟨_, rfl⟩
        have HCR2 := Lib.hid hcr
        have HLE : Hid (((E (fileB d 1) : Nat) : Int) < (fileB d 1).length) := Lib.hid (by rw [HEN1.out, hl11]; omega)
        have HCUT2 := Lib.hid (call_cut H11.out.at_ (HK1.out.fit (by omega) (by omega)) 1 (en1 : Nat) (by omega) hcr)
        have HK2 : Hid (Ok d2 S (N + 2)) := Lib.hid (by have := HK1.out.cut 1 (en1 : Nat); rw [hcr] at this; exact this)
        clear hcr hl11
        dsimp only at HCUT2
        by_cases hy : y1 = 0
        · subst hy
          go_wp2_with fail
          refine HCUT2.out.mono ?_
          rintro e w12 ⟨rfl, cs12, h12, s12⟩
          have H12 := Lib.hid (H11.out.disk s12 h12)
          have S12 := Lib.hid (S11.out.trans s12)
          have T12 := Lib.hid (T11.out.trans (RVt.disk s12))
          clear h12 s12 HCUT2 x1
          have HME := Lib.hid (fun r (h : syncR d2 1 = r) => (mend_cs HLE.out (by rw [HEN1.out]; exact HCR2.out)).trans h)
          obtain ⟨⟨d3, z1⟩, hcr⟩ : ∃ r, syncR d2 1 = r := ⟨_, rfl⟩
          have HMS := Lib.hid (HME.out _ hcr)
          have HSY := Lib.hid (call_sync H12.out.at_ (HK2.out.fit (by omega) (by omega)) 1 hcr)
          clear hcr
          dsimp only at HSY
          obtain ⟨Ad, nd, cd, Bd, md, ed, cellsd, hbx, hsn, hrc⟩ := H12.out.ex
          obtain ⟨x0, x1, x2, x3, x4, x5⟩ := hbx.cells
          clear hbx hsn hrc x0 x2 x3 x4 x5
          by_cases hz3 : z1 = 0
          · subst hz3
            go_wp2_with fail
            refine HSY.out.mono ?_
            rintro e w13 ⟨rfl, cs13, h13, s13⟩
            have H13 := Lib.hid (H12.out.disk s13 h13)
            have S13 := Lib.hid (S12.out.trans s13)
            have T13 := Lib.hid (T12.out.trans (RVt.disk s13))
            clear h13 s13 x1
            go_wp2
            refine bodyPost_ret (results_tmp2 rfl _ _ _) rfl ?_
            exact RetRO.yes (n' := 0) (HOP.out.trans (old_m HWI.out HMS.out)) (by rw [HG1.out]; exact H13.out) S13.out hq9 (fun i hi => by
              rcases T13.out.set i hi with h | h
              · exact HPQ.out i h
              · omega)
          · have hzb : (z1 != 0) = true := by simp [hz3]
            have HZN := Lib.hid hz3
            clear hz3
            go_wp2_with fail
            refine HSY.out.mono ?_
            rintro e w13 ⟨rfl, cs13, h13, s13⟩
            have H13 := Lib.hid h13
            have S13 := Lib.hid (S12.out.trans s13)
            clear h13 s13 x1
            go_wp2
            refine bodyPost_ret (results_tmp2 rfl _ _ _) rfl ?_
            exact RetRO.no (HOP.out.trans (old_m HWI.out HMS.out)) HZN.out H13.out S13.out

        · have hyb : (y1 != 0) = true := by simp [hy]
          have HYN := Lib.hid hy
          have HCR3 : Hid (cutR d (1 : Nat) ((E (fileB d 1) : Nat) : Int) = (d2, y1)) := Lib.hid (by rw [HEN1.out]; exact HCR2.out)
          clear hy
          go_wp2_with fail
          refine HCUT2.out.mono ?_
          rintro e w12 ⟨rfl, cs12, h12, s12⟩
          have H12 := Lib.hid h12
          have S12 := Lib.hid (S11.out.trans s12)
          clear h12 s12 x1
          go_wp2
          refine bodyPost_ret (results_tmp2 rfl _ _ _) rfl ?_
          exact RetRO.no (HOP.out.trans (old_m HWI.out (mend_c HLE.out HCR3.out HYN.out))) HYN.out H12.out S12.out
      · have hci : decide ((en1 : Int) < (n11 : Int)) = false := decide_eq_false (by omega)
        have HLE : Hid (¬ ((E (fileB d 1) : Nat) : Int) < (fileB d 1).length) := Lib.hid (by rw [HEN1.out, hl11]; omega)
        have HME := Lib.hid (fun r (h : syncR d 1 = r) => (mend_s HLE.out).trans h)
        clear hl11 x1
        obtain ⟨⟨d3, z1⟩, hcr⟩ : ∃ r, syncR d 1 = r := ⟨_, rfl⟩
        have HMS := Lib.hid (HME.out _ hcr)
        have HSY := Lib.hid (call_sync H11.out.at_ (HK1.out.fit (by omega) (by omega)) 1 hcr)
        clear hcr
        dsimp only at HSY
        obtain ⟨Ad, nd, cd, Bd, md, ed, cellsd, hbx, hsn, hrc⟩ := H11.out.ex
        obtain ⟨x0, x1, x2, x3, x4, x5⟩ := hbx.cells
        clear hbx hsn hrc x0 x2 x3 x4 x5
        by_cases hz3 : z1 = 0
        · subst hz3
          go_wp2_with fail
          refine HSY.out.mono ?_
          rintro e w12 ⟨rfl, cs12, h12, s12⟩
          have H12 := Lib.hid (H11.out.disk s12 h12)
          have S12 := Lib.hid (S11.out.trans s12)
          have T12 := Lib.hid (T11.out.trans (RVt.disk s12))
          clear h12 s12 x1
          go_wp2
          refine bodyPost_ret (results_tmp2 rfl _ _ _) rfl ?_
          exact RetRO.yes (n' := 0) (HOP.out.trans (old_m HWI.out HMS.out)) (by rw [HG1.out]; exact H12.out) S12.out hq9 (fun i hi => by
            rcases T12.out.set i hi with h | h
            · exact HPQ.out i h
            · omega)
        · have hzb : (z1 != 0) = true := by simp [hz3]
          have HZN := Lib.hid hz3
          clear hz3
          go_wp2_with fail
          refine HSY.out.mono ?_
          rintro e w12 ⟨rfl, cs12, h12, s12⟩
          have H12 := Lib.hid h12
          have S12 := Lib.hid (S11.out.trans s12)
          clear h12 s12 x1
          go_wp2
          refine bodyPost_ret (results_tmp2 rfl _ _ _) rfl ?_
          exact RetRO.no (HOP.out.trans (old_m HWI.out HMS.out)) HZN.out H12.out S12.out

    · have HWI0 : Hid (wipeR d ((1 : Int) - (1 : Nat)) (fileB d (1 - 1)).length = cutR d 0 0) := Lib.hid (by rw [wipe_cut (show 0 < (fileB d (1 - 1)).length by show 0 < (fileB d 0).length; omega)]; rfl)
      have hzi : decide (0 < (n10 : Int)) = true := decide_eq_true (by omega)
      have hzp : 0 < n10 := by omega
      obtain ⟨⟨d1, x1⟩, hcr⟩ : ∃ r, cutR d 0 0 = r := ⟨_, rfl⟩
      have HCR := Lib.hid hcr
      rw [hcr] at HWI0
      have HCUT := Lib.hid (call_cut H10.out.at_ (HK.out.fit (by omega) (by omega)) 0 0 (by omega) hcr)
      have HKC : Hid (Ok d1 S (N + 1)) := Lib.hid (by have := HK.out.cut 0 0; rw [hcr] at this; exact this)
      have HFC : Hid (x1 = 0 → fileB d1 1 = fileB d 1) := Lib.hid fun hx => by
        have := cut_other (d := d) (f := 0) (g := 1) (by omega) (by omega) (by omega) 0
        rw [show ((0 : Nat) : Int) = 0 from rfl, hcr] at this
        exact this hx
      clear hcr hl10 hz
      dsimp only at HCUT
      by_cases hx : x1 = 0
      · subst hx
        have HFB1 := Lib.hid (HFC.out rfl)
        clear HFC
        go_wp2_with fail
        refine HCUT.out.mono ?_
        rintro e w11 ⟨rfl, cs11, h11, s11⟩
        have H11 := Lib.hid (H10.out.disk s11 h11)
        have S11 := Lib.hid (S10.out.trans s11)
        have T11 := Lib.hid (T10.out.trans (RVt.disk s11))
        have HK1 := HKC
        have HWI := HWI0
        clear h11 s11 HCUT HKC HWI0
        obtain ⟨Ab, nb, cb, Bb, mb, eb, cellsb, hbx, hsn, hrc⟩ := H11.out.ex
        obtain ⟨x0, x1, x2, x3, x4, x5⟩ := hbx.cells
        clear hbx hsn hrc x0 x2 x3 x4 x5
        have hbk : base ≤ w11.heap.size := H11.out.at_.base_le
        have HALL2 := Lib.hid (rall1 H11.out.at_ (HK1.out.fit (by omega) (by omega)).b)
        rw [HFB1.out] at HALL2
        go_wp2_with fail
        refine HALL2.out.mono ?_
        rintro e w12 ⟨A12, n12, c12, rfl, ho, hb⟩
        have hl12 := ho.len
        have H12 := Lib.hid (H11.out.below hb)
        have T12 := Lib.hid (T11.out.trans (RVt.below hb hbk))
        have S12 := Lib.hid (S11.out.trans (DStep.below (p := p) (cs := cs11) hb hbk))
        clear ho hb HALL2 x1 hbk
        obtain ⟨Ac, nc, cc, Bc, mc, ec, cellsc, hbx, hsn, hrc⟩ := H12.out.ex
        obtain ⟨x0, x1, x2, x3, x4, x5⟩ := hbx.cells
        clear hbx hsn hrc x0 x2 x3 x4 x5
        by_cases hcut : en1 < n12
        · have hci : decide ((en1 : Int) < (n12 : Int)) = true := decide_eq_true (by omega)
          obtain ⟨⟨d2, y1⟩, hcr⟩ : ∃ r, cutR d1 1 (en1 : Nat) = r := ⟨_, rfl⟩
          have HCR2 := Lib.hid hcr
          have HLE : Hid (((E (fileB d 1) : Nat) : Int) < (fileB d 1).length) := Lib.hid (by rw [HEN1.out, hl12]; omega)
          have HCUT2 := Lib.hid (call_cut H12.out.at_ (HK1.out.fit (by omega) (by omega)) 1 (en1 : Nat) (by omega) hcr)
          have HK2 : Hid (Ok d2 S (N + 2)) := Lib.hid (by have := HK1.out.cut 1 (en1 : Nat); rw [hcr] at this; exact this)
          clear hcr hl12
          dsimp only at HCUT2
          by_cases hy : y1 = 0
          · subst hy
            go_wp2_with fail
            refine HCUT2.out.mono ?_
            rintro e w13 ⟨rfl, cs13, h13, s13⟩
            have H13 := Lib.hid (H12.out.disk s13 h13)
            have S13 := Lib.hid (S12.out.trans s13)
            have T13 := Lib.hid (T12.out.trans (RVt.disk s13))
            clear h13 s13 HCUT2 x1
            have HME := Lib.hid (fun r (h : syncR d2 1 = r) => (mend_cs HLE.out (by rw [HEN1.out]; exact HCR2.out)).trans h)
            obtain ⟨⟨d3, z1⟩, hcr⟩ : ∃ r, syncR d2 1 = r := ⟨_, rfl⟩
            have HMS := Lib.hid (HME.out _ hcr)
            have HSY := Lib.hid (call_sync H13.out.at_ (HK2.out.fit (by omega) (by omega)) 1 hcr)
            clear hcr
            dsimp only at HSY
            obtain ⟨Ad, nd, cd, Bd, md, ed, cellsd, hbx, hsn, hrc⟩ := H13.out.ex
            obtain ⟨x0, x1, x2, x3, x4, x5⟩ := hbx.cells
            clear hbx hsn hrc x0 x2 x3 x4 x5
            by_cases hz3 : z1 = 0
            · subst hz3
              go_wp2_with fail
              refine HSY.out.mono ?_
              rintro e w14 ⟨rfl, cs14, h14, s14⟩
              have H14 := Lib.hid (H13.out.disk s14 h14)
              have S14 := Lib.hid (S13.out.trans s14)
              have T14 := Lib.hid (T13.out.trans (RVt.disk s14))
              clear h14 s14 x1
              go_wp2
              refine bodyPost_ret (results_tmp2 rfl _ _ _) rfl ?_
              exact RetRO.yes (n' := 0) (HOP.out.trans (old_m HWI.out HMS.out)) (by rw [HG1.out]; exact H14.out) S14.out hq9 (fun i hi => by
                rcases T14.out.set i hi with h | h
                · exact HPQ.out i h
                · omega)
            · have hzb : (z1 != 0) = true := by simp [hz3]
              have HZN := Lib.hid hz3
              clear hz3
              go_wp2_with fail
              refine HSY.out.mono ?_
              rintro e w14 ⟨rfl, cs14, h14, s14⟩
              have H14 := Lib.hid h14
              have S14 := Lib.hid (S13.out.trans s14)
              clear h14 s14 x1
              go_wp2
              refine bodyPost_ret (results_tmp2 rfl _ _ _) rfl ?_
              exact RetRO.no (HOP.out.trans (old_m HWI.out HMS.out)) HZN.out H14.out S14.out

          · have hyb : (y1 != 0) = true := by simp [hy]
            have HYN := Lib.hid hy
            have HCR3 : Hid (cutR d1 (1 : Nat) ((E (fileB d 1) : Nat) : Int) = (d2, y1)) := Lib.hid (by rw [HEN1.out]; exact HCR2.out)
            clear hy
            go_wp2_with fail
            refine HCUT2.out.mono ?_
            rintro e w13 ⟨rfl, cs13, h13, s13⟩
            have H13 := Lib.hid h13
            have S13 := Lib.hid (S12.out.trans s13)
            clear h13 s13 x1
            go_wp2
            refine bodyPost_ret (results_tmp2 rfl _ _ _) rfl ?_
            exact RetRO.no (HOP.out.trans (old_m HWI.out (mend_c HLE.out HCR3.out HYN.out))) HYN.out H13.out S13.out
        · have hci : decide ((en1 : Int) < (n12 : Int)) = false := decide_eq_false (by omega)
          have HLE : Hid (¬ ((E (fileB d 1) : Nat) : Int) < (fileB d 1).length) := Lib.hid (by rw [HEN1.out, hl12]; omega)
          have HME := Lib.hid (fun r (h : syncR d1 1 = r) => (mend_s HLE.out).trans h)
          clear hl12 x1
          obtain ⟨⟨d3, z1⟩, hcr⟩ : ∃ r, syncR d1 1 = r := ⟨_, rfl⟩
          have HMS := Lib.hid (HME.out _ hcr)
          have HSY := Lib.hid (call_sync H12.out.at_ (HK1.out.fit (by omega) (by omega)) 1 hcr)
          clear hcr
          dsimp only at HSY
          obtain ⟨Ad, nd, cd, Bd, md, ed, cellsd, hbx, hsn, hrc⟩ := H12.out.ex
          obtain ⟨x0, x1, x2, x3, x4, x5⟩ := hbx.cells
          clear hbx hsn hrc x0 x2 x3 x4 x5
          by_cases hz3 : z1 = 0
          · subst hz3
            go_wp2_with fail
            refine HSY.out.mono ?_
            rintro e w13 ⟨rfl, cs13, h13, s13⟩
            have H13 := Lib.hid (H12.out.disk s13 h13)
            have S13 := Lib.hid (S12.out.trans s13)
            have T13 := Lib.hid (T12.out.trans (RVt.disk s13))
            clear h13 s13 x1
            go_wp2
            refine bodyPost_ret (results_tmp2 rfl _ _ _) rfl ?_
            exact RetRO.yes (n' := 0) (HOP.out.trans (old_m HWI.out HMS.out)) (by rw [HG1.out]; exact H13.out) S13.out hq9 (fun i hi => by
              rcases T13.out.set i hi with h | h
              · exact HPQ.out i h
              · omega)
          · have hzb : (z1 != 0) = true := by simp [hz3]
            have HZN := Lib.hid hz3
            clear hz3
            go_wp2_with fail
            refine HSY.out.mono ?_
            rintro e w13 ⟨rfl, cs13, h13, s13⟩
            have H13 := Lib.hid h13
            have S13 := Lib.hid (S12.out.trans s13)
            clear h13 s13 x1
            go_wp2
            refine bodyPost_ret (results_tmp2 rfl _ _ _) rfl ?_
            exact RetRO.no (HOP.out.trans (old_m HWI.out HMS.out)) HZN.out H13.out S13.out

      · have hxb : (x1 != 0) = true := by simp [hx]
        have HXN := Lib.hid hx
        clear hx
        go_wp2_with fail
        refine HCUT.out.mono ?_
        rintro e w11 ⟨rfl, cs11, h11, s11⟩
        have H11 := Lib.hid h11
        have S11 := Lib.hid (S10.out.trans s11)
        clear h11 s11
        go_wp2
        refine bodyPost_ret (results_tmp2 rfl _ _ _) rfl ?_
        exact RetRO.no (HOP.out.trans (old_w HWI0.out HXN.out)) HXN.out H11.out S11.out
  · have hdec : decide (g0 < g1) = false := decide_eq_false hlt
    have HLT := Lib.hid hlt
    clear hlt
    by_cases hg : g0 = 0
    · have HGZ := Lib.hid hg
      subst hg
      have H9 := HM
      have S9 := Lib.hid (S6.out.trans (DStep.below (p := p) (cs := cs) B7.out (by omega)))
      have hw9 : w.heap.size ≤ (w6.alloc (.cells #[.pointer (some ⟨p, 0, none⟩), .int .i64 0, .int .i64 0, .slice A4 n4 c4, .slice B4 m4 e4, .int .i64 0] 55)).heap.size := by omega
      have HOP := Lib.hid (open_new HLO.out HOFF.out (by rw [HG0.out, HG1.out]; exact HLT.out) HG0.out)
      have O9 := Lib.hid (HO6.out.below B7.out)
      go_upto_region 14 with fail
      generalize w6.alloc (.cells #[.pointer (some ⟨p, 0, none⟩), .int .i64 0, .int .i64 0, .slice A4 n4 c4, .slice B4 m4 e4, .int .i64 0] 55) = w9 at H9 S9 hw9 O9 ⊢
      generalize w6.heap.size = q at H9 ⊢
      clear hs7 B7 HM
      have HNF : Hid (∀ g, (Value.slice A2 n2 c2).ownBlock = some g → ¬ Ft p cs g) := Lib.hid fun g hg hf => by have h1 := HFT.out g hf; have h2 := (OwB.blk O9.out g hg).1; omega
      obtain ⟨Aa, na, ca, Ba, ma, ea, cellsa, hbx, hsn, hrc⟩ := H9.out.ex
      obtain ⟨x0, x1, x2, x3, x4, x5⟩ := hbx.cells
      have hb9 : base ≤ w9.heap.size := by omega
      clear hbx hsn hrc x0 x1 x3 x4 x5
      have HALL := Lib.hid (rall0 H9.out.at_ (HK.out.fit (by omega) (by omega)).b)
      go_wp2_with fail
      refine HALL.out.mono ?_
      rintro e w10 ⟨A10, n10, c10, rfl, ho, hb⟩
      have hl10 := ho.len
      have H10 := Lib.hid (H9.out.at_.below hb)
      have X10 := Lib.hid (DStep.below (p := p) (cs := cs) hb hb9)
      clear ho hb HALL x2
      by_cases hz : n10 = 0
      · subst hz
        have HWI : Hid (wipeR d 0 (fileB d 0).length = (d, 0)) := Lib.hid (wipe_nil hl10)
        have HFB1 : Hid (fileB d 1 = fileB d 1) := Lib.hid rfl
        have HK1 : Hid (Ok d S (N + 1)) := Lib.hid (HK.out.more (by omega) (by omega))
        clear hl10
        have HRB := Lib.hid ((own_apartF O9.out HNF.out X10.out).rd)
        have hfbl := HFB.out
        obtain ⟨⟨d2, y1⟩, hcr⟩ : ∃ r, appR d 0 (firstB 1 s) = r := ⟨_, rfl⟩
        have HCR2 := Lib.hid hcr
        have HAP := Lib.hid (call_app H10.out (HK1.out.fit (by omega) (by omega)) 0 A2 n2 c2 (firstB 1 s) HRB.out (fun i hi => by have := HK1.out.len i hi; omega) hcr)
        have HK2 : Hid (Ok d2 (S + (firstB 1 s).length) (N + 2)) := Lib.hid (by have := HK1.out.app 0 (firstB 1 s); rw [hcr] at this; exact this)
        have HFC2 : Hid (y1 = 0 → fileB d2 1 = fileB d 1) := Lib.hid fun hx => by
          have := app_other (d := d) (f := 0) (g := 1) (by omega) (by omega) (by omega) (firstB 1 s)
          rw [show ((0 : Nat) : Int) = 0 from rfl, hcr] at this
          exact (this hx).trans HFB1.out
        clear hcr
        dsimp only at HAP
        by_cases hy : y1 = 0
        · subst hy
          have HFB2 := Lib.hid (HFC2.out rfl)
          clear HFC2
          go_wp2_with fail
          refine HAP.out.mono ?_
          rintro e w11 ⟨rfl, cs11, h11, s11⟩
          have H11 := Lib.hid h11
          have X11 := Lib.hid (X10.out.trans s11)
          clear h11 s11 HAP
          obtain ⟨⟨d3, z1⟩, hcr⟩ : ∃ r, syncR d2 0 = r := ⟨_, rfl⟩
          have HCR3 := Lib.hid hcr
          have HSY := Lib.hid (call_sync H11.out (HK2.out.fit (by omega) (by omega)) 0 hcr)
          have HK3 : Hid (Ok d3 (S + (firstB 1 s).length) (N + 3)) := Lib.hid (by have := HK2.out.sync 0; rw [hcr] at this; exact this)
          have HFC3 : Hid (z1 = 0 → fileB d3 1 = fileB d 1) := Lib.hid fun hx => by
            have := sync_other (d := d2) (f := 0) (g := 1) (by omega) (by omega) (by omega)
            rw [show ((0 : Nat) : Int) = 0 from rfl, hcr] at this
            exact (this hx).trans HFB2.out
          clear hcr
          dsimp only at HSY
          by_cases hz3 : z1 = 0
          · subst hz3
            have HFB3 := Lib.hid (HFC3.out rfl)
            clear HFC3
            go_wp2_with fail
            refine HSY.out.mono ?_
            rintro e w12 ⟨rfl, cs12, h12, s12⟩
            have H12 := Lib.hid h12
            have X12 := Lib.hid (X11.out.trans s12)
            clear h12 s12 HSY
            have HALL2 := Lib.hid (rall1 H12.out (HK3.out.fit (by omega) (by omega)).b)
            rw [HFB3.out] at HALL2
            have hbk : base ≤ w12.heap.size := H12.out.base_le
            go_wp2_with fail
            refine HALL2.out.mono ?_
            rintro e w13 ⟨A13, n13, c13, rfl, ho, hb⟩
            have hl13 := ho.len
            have H13 := Lib.hid (H12.out.below hb)
            have X13 := Lib.hid (X12.out.trans (DStep.below (p := p) (cs := cs12) hb hbk))
            clear ho hb HALL2 hbk
            have HNL := Lib.hid (new_l HWI.out HCR2.out HCR3.out)
            by_cases hu : n13 = 0
            · subst hu
              have HW2 : Hid (wipeR d3 1 (fileB d 1).length = (d3, 0)) := Lib.hid (wipe_nil hl13)
              have HFIN : Hid (openR d s = ⟨d3, 0, ⟨0, 1, s, []⟩⟩) := Lib.hid (by rw [HOP.out, HNL.out, HW2.out])
              clear hl13
              have HRS := Lib.hid (HSN.out _ _ (S9.out.trans X13.out))
              have BB := Lib.hid (Below.refl w13.heap.size w13)
              have hbk : base ≤ w13.heap.size := H13.out.base_le
              have hwk : w.heap.size ≤ w13.heap.size := (S9.out.trans X13.out).keep.1
              go_wp2_with (first | (at_builtin; refine app (w0 := w13) (base := w13.heap.size) rfl (.tmp 107) (.tmp 108) rfl rfl rfl (OwB.lit0 _ _ (Nat.le_refl _)) (HRS.out.below (below_alloc (Below.refl _ _) _)) (BB.out.alloc (Nat.le_refl _) _) ?s14 ?l14 ?_; (case s14 => simp); (case l14 => omega); intro A14 n14 c14 w14 ho hb; have HOF := Lib.hid ho; have HBF := Lib.hid hb; rw [List.nil_append] at HOF; clear ho hb) | fail)
              refine bodyPost_ret (results_tmp2 rfl _ _ _) rfl ?_
              have hsf := HBF.out.size
              have HMF := RVs.make (lo := w13.heap.size) (H13.out.below HBF.out) (fun i hi => (H13.out.ft hi).2) hbk hsf (Snap.own HOF.out) (WinV.nil _ _) (Rws.nil _ _) 0 1 0
              exact RetRO.yes (n' := 0) HFIN.out HMF (S9.out.trans (X13.out.trans (DStep.below (p := p) (cs := cs12) (HBF.out.alloc hsf _) hbk))) (Nat.le_trans hwk hsf) (fun i hi => Nat.le_trans hwk hi.1)

            · have hui : decide (0 < (n13 : Int)) = true := decide_eq_true (by omega)
              have hup : 0 < n13 := by omega
              obtain ⟨⟨d4, u1⟩, hcr⟩ : ∃ r, cutR d3 1 0 = r := ⟨_, rfl⟩
              have HW2 : Hid (wipeR d3 1 (fileB d 1).length = (d4, u1)) := Lib.hid ((wipe_cut (show 0 < (fileB d 1).length by omega)).trans hcr)
              have HCU := Lib.hid (call_cut H13.out (HK3.out.fit (by omega) (by omega)) 1 0 (by omega) hcr)
              clear hcr hl13 hu
              dsimp only at HCU
              by_cases hu1 : u1 = 0
              · subst hu1
                have HFIN : Hid (openR d s = ⟨d4, 0, ⟨0, 1, s, []⟩⟩) := Lib.hid (by rw [HOP.out, HNL.out, HW2.out])
                go_wp2_with fail
                refine HCU.out.mono ?_
                rintro e w14 ⟨rfl, cs14, h14, s14⟩
                have H14 := Lib.hid h14
                have X14 := Lib.hid (X13.out.trans s14)
                clear h14 s14
                have HRS := Lib.hid (HSN.out _ _ (S9.out.trans X14.out))
                have BB := Lib.hid (Below.refl w14.heap.size w14)
                have hbk : base ≤ w14.heap.size := H14.out.base_le
                have hwk : w.heap.size ≤ w14.heap.size := (S9.out.trans X14.out).keep.1
                go_wp2_with (first | (at_builtin; refine app (w0 := w14) (base := w14.heap.size) rfl (.tmp 107) (.tmp 108) rfl rfl rfl (OwB.lit0 _ _ (Nat.le_refl _)) (HRS.out.below (below_alloc (Below.refl _ _) _)) (BB.out.alloc (Nat.le_refl _) _) ?s15 ?l15 ?_; (case s15 => simp); (case l15 => omega); intro A15 n15 c15 w15 ho hb; have HOF := Lib.hid ho; have HBF := Lib.hid hb; rw [List.nil_append] at HOF; clear ho hb) | fail)
                refine bodyPost_ret (results_tmp2 rfl _ _ _) rfl ?_
                have hsf := HBF.out.size
                have HMF := RVs.make (lo := w14.heap.size) (H14.out.below HBF.out) (fun i hi => (H14.out.ft hi).2) hbk hsf (Snap.own HOF.out) (WinV.nil _ _) (Rws.nil _ _) 0 1 0
                exact RetRO.yes (n' := 0) HFIN.out HMF (S9.out.trans (X14.out.trans (DStep.below (p := p) (cs := cs14) (HBF.out.alloc hsf _) hbk))) (Nat.le_trans hwk hsf) (fun i hi => Nat.le_trans hwk hi.1)

              · have hub : (u1 != 0) = true := by simp [hu1]
                have HUN := Lib.hid hu1
                clear hu1
                go_wp2_with fail
                refine HCU.out.mono ?_
                rintro e w14 ⟨rfl, cs14, h14, s14⟩
                have H14 := Lib.hid h14
                have X14 := Lib.hid (X13.out.trans s14)
                clear h14 s14
                go_wp2
                refine bodyPost_ret (results_tmp2 rfl _ _ _) rfl ?_
                exact RetRO.no (d' := d4) (v := ⟨0, 1, s, []⟩) (by rw [HOP.out, HNL.out, HW2.out]) HUN.out H14.out (S9.out.trans X14.out)

          · have hzb : (z1 != 0) = true := by simp [hz3]
            have HZN := Lib.hid hz3
            clear hz3
            go_wp2_with fail
            refine HSY.out.mono ?_
            rintro e w12 ⟨rfl, cs12, h12, s12⟩
            have H12 := Lib.hid h12
            have X12 := Lib.hid (X11.out.trans s12)
            clear h12 s12
            go_wp2
            refine bodyPost_ret (results_tmp2 rfl _ _ _) rfl ?_
            exact RetRO.no (HOP.out.trans (new_s HWI.out HCR2.out HCR3.out HZN.out)) HZN.out H12.out (S9.out.trans X12.out)
        · have hyb : (y1 != 0) = true := by simp [hy]
          have HYN := Lib.hid hy
          clear hy
          go_wp2_with fail
          refine HAP.out.mono ?_
          rintro e w11 ⟨rfl, cs11, h11, s11⟩
          have H11 := Lib.hid h11
          have X11 := Lib.hid (X10.out.trans s11)
          clear h11 s11
          go_wp2
          refine bodyPost_ret (results_tmp2 rfl _ _ _) rfl ?_
          exact RetRO.no (HOP.out.trans (new_a HWI.out HCR2.out HYN.out)) HYN.out H11.out (S9.out.trans X11.out)

      · have HWI0 : Hid (wipeR d 0 (fileB d 0).length = cutR d 0 0) := Lib.hid (wipe_cut (show 0 < (fileB d 0).length by omega))
        have hzi : decide (0 < (n10 : Int)) = true := decide_eq_true (by omega)
        have hzp : 0 < n10 := by omega
        obtain ⟨⟨d1, x1⟩, hcr⟩ : ∃ r, cutR d 0 0 = r := ⟨_, rfl⟩
        have HCR := Lib.hid hcr
        rw [hcr] at HWI0
        have HCUT := Lib.hid (call_cut H10.out (HK.out.fit (by omega) (by omega)) 0 0 (by omega) hcr)
        have HKC : Hid (Ok d1 S (N + 1)) := Lib.hid (by have := HK.out.cut 0 0; rw [hcr] at this; exact this)
        have HFC : Hid (x1 = 0 → fileB d1 1 = fileB d 1) := Lib.hid fun hx => by
          have := cut_other (d := d) (f := 0) (g := 1) (by omega) (by omega) (by omega) 0
          rw [show ((0 : Nat) : Int) = 0 from rfl, hcr] at this
          exact this hx
        clear hcr hl10 hz
        dsimp only at HCUT
        by_cases hx : x1 = 0
        · subst hx
          have HFB1 := Lib.hid (HFC.out rfl)
          clear HFC
          go_wp2_with fail
          refine HCUT.out.mono ?_
          rintro e w11 ⟨rfl, cs11, h11, s11⟩
          have H11 := Lib.hid h11
          have X11 := Lib.hid (X10.out.trans s11)
          have HK1 := HKC
          have HWI := HWI0
          clear h11 s11 HCUT HKC HWI0
          have HRB := Lib.hid ((own_apartF O9.out HNF.out X11.out).rd)
          have hfbl := HFB.out
          obtain ⟨⟨d2, y1⟩, hcr⟩ : ∃ r, appR d1 0 (firstB 1 s) = r := ⟨_, rfl⟩
          have HCR2 := Lib.hid hcr
          have HAP := Lib.hid (call_app H11.out (HK1.out.fit (by omega) (by omega)) 0 A2 n2 c2 (firstB 1 s) HRB.out (fun i hi => by have := HK1.out.len i hi; omega) hcr)
          have HK2 : Hid (Ok d2 (S + (firstB 1 s).length) (N + 2)) := Lib.hid (by have := HK1.out.app 0 (firstB 1 s); rw [hcr] at this; exact this)
          have HFC2 : Hid (y1 = 0 → fileB d2 1 = fileB d 1) := Lib.hid fun hx => by
            have := app_other (d := d1) (f := 0) (g := 1) (by omega) (by omega) (by omega) (firstB 1 s)
            rw [show ((0 : Nat) : Int) = 0 from rfl, hcr] at this
            exact (this hx).trans HFB1.out
          clear hcr
          dsimp only at HAP
          by_cases hy : y1 = 0
          · subst hy
            have HFB2 := Lib.hid (HFC2.out rfl)
            clear HFC2
            go_wp2_with fail
            refine HAP.out.mono ?_
            rintro e w12 ⟨rfl, cs12, h12, s12⟩
            have H12 := Lib.hid h12
            have X12 := Lib.hid (X11.out.trans s12)
            clear h12 s12 HAP
            obtain ⟨⟨d3, z1⟩, hcr⟩ : ∃ r, syncR d2 0 = r := ⟨_, rfl⟩
            have HCR3 := Lib.hid hcr
            have HSY := Lib.hid (call_sync H12.out (HK2.out.fit (by omega) (by omega)) 0 hcr)
            have HK3 : Hid (Ok d3 (S + (firstB 1 s).length) (N + 3)) := Lib.hid (by have := HK2.out.sync 0; rw [hcr] at this; exact this)
            have HFC3 : Hid (z1 = 0 → fileB d3 1 = fileB d 1) := Lib.hid fun hx => by
              have := sync_other (d := d2) (f := 0) (g := 1) (by omega) (by omega) (by omega)
              rw [show ((0 : Nat) : Int) = 0 from rfl, hcr] at this
              exact (this hx).trans HFB2.out
            clear hcr
            dsimp only at HSY
            by_cases hz3 : z1 = 0
            · subst hz3
              have HFB3 := Lib.hid (HFC3.out rfl)
              clear HFC3
              go_wp2_with fail
              refine HSY.out.mono ?_
              rintro e w13 ⟨rfl, cs13, h13, s13⟩
              have H13 := Lib.hid h13
              have X13 := Lib.hid (X12.out.trans s13)
              clear h13 s13 HSY
              have HALL2 := Lib.hid (rall1 H13.out (HK3.out.fit (by omega) (by omega)).b)
              rw [HFB3.out] at HALL2
              have hbk : base ≤ w13.heap.size := H13.out.base_le
              go_wp2_with fail
              refine HALL2.out.mono ?_
              rintro e w14 ⟨A14, n14, c14, rfl, ho, hb⟩
              have hl14 := ho.len
              have H14 := Lib.hid (H13.out.below hb)
              have X14 := Lib.hid (X13.out.trans (DStep.below (p := p) (cs := cs13) hb hbk))
              clear ho hb HALL2 hbk
              have HNL := Lib.hid (new_l HWI.out HCR2.out HCR3.out)
              by_cases hu : n14 = 0
              · subst hu
                have HW2 : Hid (wipeR d3 1 (fileB d 1).length = (d3, 0)) := Lib.hid (wipe_nil hl14)
                have HFIN : Hid (openR d s = ⟨d3, 0, ⟨0, 1, s, []⟩⟩) := Lib.hid (by rw [HOP.out, HNL.out, HW2.out])
                clear hl14
                have HRS := Lib.hid (HSN.out _ _ (S9.out.trans X14.out))
                have BB := Lib.hid (Below.refl w14.heap.size w14)
                have hbk : base ≤ w14.heap.size := H14.out.base_le
                have hwk : w.heap.size ≤ w14.heap.size := (S9.out.trans X14.out).keep.1
                go_wp2_with (first | (at_builtin; refine app (w0 := w14) (base := w14.heap.size) rfl (.tmp 107) (.tmp 108) rfl rfl rfl (OwB.lit0 _ _ (Nat.le_refl _)) (HRS.out.below (below_alloc (Below.refl _ _) _)) (BB.out.alloc (Nat.le_refl _) _) ?s15 ?l15 ?_; (case s15 => simp); (case l15 => omega); intro A15 n15 c15 w15 ho hb; have HOF := Lib.hid ho; have HBF := Lib.hid hb; rw [List.nil_append] at HOF; clear ho hb) | fail)
                refine bodyPost_ret (results_tmp2 rfl _ _ _) rfl ?_
                have hsf := HBF.out.size
                have HMF := RVs.make (lo := w14.heap.size) (H14.out.below HBF.out) (fun i hi => (H14.out.ft hi).2) hbk hsf (Snap.own HOF.out) (WinV.nil _ _) (Rws.nil _ _) 0 1 0
                exact RetRO.yes (n' := 0) HFIN.out HMF (S9.out.trans (X14.out.trans (DStep.below (p := p) (cs := cs13) (HBF.out.alloc hsf _) hbk))) (Nat.le_trans hwk hsf) (fun i hi => Nat.le_trans hwk hi.1)

              · have hui : decide (0 < (n14 : Int)) = true := decide_eq_true (by omega)
                have hup : 0 < n14 := by omega
                obtain ⟨⟨d4, u1⟩, hcr⟩ : ∃ r, cutR d3 1 0 = r := ⟨_, rfl⟩
                have HW2 : Hid (wipeR d3 1 (fileB d 1).length = (d4, u1)) := Lib.hid ((wipe_cut (show 0 < (fileB d 1).length by omega)).trans hcr)
                have HCU := Lib.hid (call_cut H14.out (HK3.out.fit (by omega) (by omega)) 1 0 (by omega) hcr)
                clear hcr hl14 hu
                dsimp only at HCU
                by_cases hu1 : u1 = 0
                · subst hu1
                  have HFIN : Hid (openR d s = ⟨d4, 0, ⟨0, 1, s, []⟩⟩) := Lib.hid (by rw [HOP.out, HNL.out, HW2.out])
                  go_wp2_with fail
                  refine HCU.out.mono ?_
                  rintro e w15 ⟨rfl, cs15, h15, s15⟩
                  have H15 := Lib.hid h15
                  have X15 := Lib.hid (X14.out.trans s15)
                  clear h15 s15
                  have HRS := Lib.hid (HSN.out _ _ (S9.out.trans X15.out))
                  have BB := Lib.hid (Below.refl w15.heap.size w15)
                  have hbk : base ≤ w15.heap.size := H15.out.base_le
                  have hwk : w.heap.size ≤ w15.heap.size := (S9.out.trans X15.out).keep.1
                  go_wp2_with (first | (at_builtin; refine app (w0 := w15) (base := w15.heap.size) rfl (.tmp 107) (.tmp 108) rfl rfl rfl (OwB.lit0 _ _ (Nat.le_refl _)) (HRS.out.below (below_alloc (Below.refl _ _) _)) (BB.out.alloc (Nat.le_refl _) _) ?s16 ?l16 ?_; (case s16 => simp); (case l16 => omega); intro A16 n16 c16 w16 ho hb; have HOF := Lib.hid ho; have HBF := Lib.hid hb; rw [List.nil_append] at HOF; clear ho hb) | fail)
                  refine bodyPost_ret (results_tmp2 rfl _ _ _) rfl ?_
                  have hsf := HBF.out.size
                  have HMF := RVs.make (lo := w15.heap.size) (H15.out.below HBF.out) (fun i hi => (H15.out.ft hi).2) hbk hsf (Snap.own HOF.out) (WinV.nil _ _) (Rws.nil _ _) 0 1 0
                  exact RetRO.yes (n' := 0) HFIN.out HMF (S9.out.trans (X15.out.trans (DStep.below (p := p) (cs := cs15) (HBF.out.alloc hsf _) hbk))) (Nat.le_trans hwk hsf) (fun i hi => Nat.le_trans hwk hi.1)

                · have hub : (u1 != 0) = true := by simp [hu1]
                  have HUN := Lib.hid hu1
                  clear hu1
                  go_wp2_with fail
                  refine HCU.out.mono ?_
                  rintro e w15 ⟨rfl, cs15, h15, s15⟩
                  have H15 := Lib.hid h15
                  have X15 := Lib.hid (X14.out.trans s15)
                  clear h15 s15
                  go_wp2
                  refine bodyPost_ret (results_tmp2 rfl _ _ _) rfl ?_
                  exact RetRO.no (d' := d4) (v := ⟨0, 1, s, []⟩) (by rw [HOP.out, HNL.out, HW2.out]) HUN.out H15.out (S9.out.trans X15.out)

            · have hzb : (z1 != 0) = true := by simp [hz3]
              have HZN := Lib.hid hz3
              clear hz3
              go_wp2_with fail
              refine HSY.out.mono ?_
              rintro e w13 ⟨rfl, cs13, h13, s13⟩
              have H13 := Lib.hid h13
              have X13 := Lib.hid (X12.out.trans s13)
              clear h13 s13
              go_wp2
              refine bodyPost_ret (results_tmp2 rfl _ _ _) rfl ?_
              exact RetRO.no (HOP.out.trans (new_s HWI.out HCR2.out HCR3.out HZN.out)) HZN.out H13.out (S9.out.trans X13.out)
          · have hyb : (y1 != 0) = true := by simp [hy]
            have HYN := Lib.hid hy
            clear hy
            go_wp2_with fail
            refine HAP.out.mono ?_
            rintro e w12 ⟨rfl, cs12, h12, s12⟩
            have H12 := Lib.hid h12
            have X12 := Lib.hid (X11.out.trans s12)
            clear h12 s12
            go_wp2
            refine bodyPost_ret (results_tmp2 rfl _ _ _) rfl ?_
            exact RetRO.no (HOP.out.trans (new_a HWI.out HCR2.out HYN.out)) HYN.out H12.out (S9.out.trans X12.out)

        · have hxb : (x1 != 0) = true := by simp [hx]
          have HXN := Lib.hid hx
          clear hx
          go_wp2_with fail
          refine HCUT.out.mono ?_
          rintro e w11 ⟨rfl, cs11, h11, s11⟩
          have H11 := Lib.hid h11
          have X11 := Lib.hid (X10.out.trans s11)
          clear h11 s11
          go_wp2
          refine bodyPost_ret (results_tmp2 rfl _ _ _) rfl ?_
          exact RetRO.no (HOP.out.trans (new_w HWI0.out HXN.out)) HXN.out H11.out (S9.out.trans X11.out)
    · have hgb : (g0 == 0) = false := beq_eq_false_iff_ne.2 hg
      have HGZ := Lib.hid hg
      clear hg
      have H9 := HM
      have hq9 : w.heap.size ≤ w6.heap.size := by omega
      have S9 := Lib.hid (S6.out.trans (DStep.below (p := p) (cs := cs) B7.out (by omega)))
      have hw9 : w.heap.size ≤ (w6.alloc (.cells #[.pointer (some ⟨p, 0, none⟩), .int .i64 0, .int .i64 g0, .slice A4 n4 c4, .slice B4 m4 e4, .int .i64 0] 55)).heap.size := by omega
      have hPQ : ∀ i, (w3.heap.size ≤ i ∧ i < w6.heap.size) → w.heap.size ≤ i := fun i hi => by omega
      have HOP := Lib.hid (open_old0 HLO.out HOFF.out (by rw [HG0.out, HG1.out]; exact HLT.out) (by rw [HG0.out]; exact HGZ.out))
      go_upto_region 14 with fail
      generalize w6.alloc (.cells #[.pointer (some ⟨p, 0, none⟩), .int .i64 0, .int .i64 g0, .slice A4 n4 c4, .slice B4 m4 e4, .int .i64 0] 55) = w9 at H9 S9 hw9 ⊢
      generalize hqq : w6.heap.size = q at H9 hq9 hPQ ⊢
      clear hqq hs7 B7 HM
      generalize hPP : (fun i => w3.heap.size ≤ i ∧ i < q) = P at H9
      have HPQ : Hid (∀ i, P i → w.heap.size ≤ i) := Lib.hid fun i hi => by rw [← hPP] at hi; exact hPQ i hi
      clear hPP hPQ
      have T9 : Hid (RVt w9 base p q cs P w9 cs P) := Lib.hid RVt.refl
      have hw0 : IntKind.i64.wrap 0 = 0 := rfl
      have hw1 : IntKind.i64.wrap 1 = 1 := rfl
      obtain ⟨Aa, na, ca, Ba, ma, ea, cellsa, hbx, hsn, hrc⟩ := H9.out.ex
      obtain ⟨x0, x1, x2, x3, x4, x5⟩ := hbx.cells
      clear hbx hsn hrc x0 x3 x4 x5
      have HALL := Lib.hid (rall1 H9.out.at_ (HK.out.fit (by omega) (by omega)).b)
      go_wp2_with fail
      refine HALL.out.mono ?_
      rintro e w10 ⟨A10, n10, c10, rfl, ho, hb⟩
      have hl10 := ho.len
      have H10 := Lib.hid (H9.out.below hb)
      have T10 := Lib.hid (T9.out.trans (RVt.below hb (by omega)))
      have S10 := Lib.hid (S9.out.trans (DStep.below (p := p) (cs := cs) hb (by omega)))
      clear ho hb HALL x1 x2
      by_cases hz : n10 = 0
      · subst hz
        have HWI : Hid (wipeR d ((1 : Int) - (0 : Nat)) (fileB d (1 - 0)).length = (d, 0)) := Lib.hid (wipe_nil hl10)
        have HFB1 : Hid (fileB d 0 = fileB d 0) := Lib.hid rfl
        have HK1 : Hid (Ok d S (N + 1)) := Lib.hid (HK.out.more (by omega) (by omega))
        clear hl10
        obtain ⟨Ab, nb, cb, Bb, mb, eb, cellsb, hbx, hsn, hrc⟩ := H10.out.ex
        obtain ⟨x0, x1, x2, x3, x4, x5⟩ := hbx.cells
        clear hbx hsn hrc x0 x2 x3 x4 x5
        have hbk : base ≤ w10.heap.size := H10.out.at_.base_le
        have HALL2 := Lib.hid (rall0 H10.out.at_ (HK1.out.fit (by omega) (by omega)).b)
        rw [HFB1.out] at HALL2
        go_wp2_with fail
        refine HALL2.out.mono ?_
        rintro e w11 ⟨A11, n11, c11, rfl, ho, hb⟩
        have hl11 := ho.len
        have H11 := Lib.hid (H10.out.below hb)
        have T11 := Lib.hid (T10.out.trans (RVt.below hb hbk))
        have S11 := Lib.hid (S10.out.trans (DStep.below (p := p) (cs := cs) hb hbk))
        clear ho hb HALL2 x1 hbk
        obtain ⟨Ac, nc, cc, Bc, mc, ec, cellsc, hbx, hsn, hrc⟩ := H11.out.ex
        obtain ⟨x0, x1, x2, x3, x4, x5⟩ := hbx.cells
        clear hbx hsn hrc x0 x2 x3 x4 x5
        by_cases hcut : en0 < n11
        · have hci : decide ((en0 : Int) < (n11 : Int)) = true := decide_eq_true (by omega)
          obtain ⟨⟨d2, y1⟩, hcr⟩ : ∃ r, cutR d 0 (en0 : Nat) = r := ⟨_, rfl⟩
          have HCR2 := Lib.hid hcr
          have HLE : Hid (((E (fileB d 0) : Nat) : Int) < (fileB d 0).length) := Lib.hid (by rw [HEN0.out, hl11]; omega)
          have HCUT2 := Lib.hid (call_cut H11.out.at_ (HK1.out.fit (by omega) (by omega)) 0 (en0 : Nat) (by omega) hcr)
          have HK2 : Hid (Ok d2 S (N + 2)) := Lib.hid (by have := HK1.out.cut 0 (en0 : Nat); rw [hcr] at this; exact this)
          clear hcr hl11
          dsimp only at HCUT2
          by_cases hy : y1 = 0
          · subst hy
            go_wp2_with fail
            refine HCUT2.out.mono ?_
            rintro e w12 ⟨rfl, cs12, h12, s12⟩
            have H12 := Lib.hid (H11.out.disk s12 h12)
            have S12 := Lib.hid (S11.out.trans s12)
            have T12 := Lib.hid (T11.out.trans (RVt.disk s12))
            clear h12 s12 HCUT2 x1
            have HME := Lib.hid (fun r (h : syncR d2 0 = r) => (mend_cs HLE.out (by rw [HEN0.out]; exact HCR2.out)).trans h)
            obtain ⟨⟨d3, z1⟩, hcr⟩ : ∃ r, syncR d2 0 = r := ⟨_, rfl⟩
            have HMS := Lib.hid (HME.out _ hcr)
            have HSY := Lib.hid (call_sync H12.out.at_ (HK2.out.fit (by omega) (by omega)) 0 hcr)
            clear hcr
            dsimp only at HSY
            obtain ⟨Ad, nd, cd, Bd, md, ed, cellsd, hbx, hsn, hrc⟩ := H12.out.ex
            obtain ⟨x0, x1, x2, x3, x4, x5⟩ := hbx.cells
            clear hbx hsn hrc x0 x2 x3 x4 x5
            by_cases hz3 : z1 = 0
            · subst hz3
              go_wp2_with fail
              refine HSY.out.mono ?_
              rintro e w13 ⟨rfl, cs13, h13, s13⟩
              have H13 := Lib.hid (H12.out.disk s13 h13)
              have S13 := Lib.hid (S12.out.trans s13)
              have T13 := Lib.hid (T12.out.trans (RVt.disk s13))
              clear h13 s13 x1
              go_wp2
              refine bodyPost_ret (results_tmp2 rfl _ _ _) rfl ?_
              exact RetRO.yes (n' := 0) (HOP.out.trans (old_m HWI.out HMS.out)) (by rw [HG0.out]; exact H13.out) S13.out hq9 (fun i hi => by
                rcases T13.out.set i hi with h | h
                · exact HPQ.out i h
                · omega)
            · have hzb : (z1 != 0) = true := by simp [hz3]
              have HZN := Lib.hid hz3
              clear hz3
              go_wp2_with fail
              refine HSY.out.mono ?_
              rintro e w13 ⟨rfl, cs13, h13, s13⟩
              have H13 := Lib.hid h13
              have S13 := Lib.hid (S12.out.trans s13)
              clear h13 s13 x1
              go_wp2
              refine bodyPost_ret (results_tmp2 rfl _ _ _) rfl ?_
              exact RetRO.no (HOP.out.trans (old_m HWI.out HMS.out)) HZN.out H13.out S13.out

          · have hyb : (y1 != 0) = true := by simp [hy]
            have HYN := Lib.hid hy
            have HCR3 : Hid (cutR d (0 : Nat) ((E (fileB d 0) : Nat) : Int) = (d2, y1)) := Lib.hid (by rw [HEN0.out]; exact HCR2.out)
            clear hy
            go_wp2_with fail
            refine HCUT2.out.mono ?_
            rintro e w12 ⟨rfl, cs12, h12, s12⟩
            have H12 := Lib.hid h12
            have S12 := Lib.hid (S11.out.trans s12)
            clear h12 s12 x1
            go_wp2
            refine bodyPost_ret (results_tmp2 rfl _ _ _) rfl ?_
            exact RetRO.no (HOP.out.trans (old_m HWI.out (mend_c HLE.out HCR3.out HYN.out))) HYN.out H12.out S12.out
        · have hci : decide ((en0 : Int) < (n11 : Int)) = false := decide_eq_false (by omega)
          have HLE : Hid (¬ ((E (fileB d 0) : Nat) : Int) < (fileB d 0).length) := Lib.hid (by rw [HEN0.out, hl11]; omega)
          have HME := Lib.hid (fun r (h : syncR d 0 = r) => (mend_s HLE.out).trans h)
          clear hl11 x1
          obtain ⟨⟨d3, z1⟩, hcr⟩ : ∃ r, syncR d 0 = r := ⟨_, rfl⟩
          have HMS := Lib.hid (HME.out _ hcr)
          have HSY := Lib.hid (call_sync H11.out.at_ (HK1.out.fit (by omega) (by omega)) 0 hcr)
          clear hcr
          dsimp only at HSY
          obtain ⟨Ad, nd, cd, Bd, md, ed, cellsd, hbx, hsn, hrc⟩ := H11.out.ex
          obtain ⟨x0, x1, x2, x3, x4, x5⟩ := hbx.cells
          clear hbx hsn hrc x0 x2 x3 x4 x5
          by_cases hz3 : z1 = 0
          · subst hz3
            go_wp2_with fail
            refine HSY.out.mono ?_
            rintro e w12 ⟨rfl, cs12, h12, s12⟩
            have H12 := Lib.hid (H11.out.disk s12 h12)
            have S12 := Lib.hid (S11.out.trans s12)
            have T12 := Lib.hid (T11.out.trans (RVt.disk s12))
            clear h12 s12 x1
            go_wp2
            refine bodyPost_ret (results_tmp2 rfl _ _ _) rfl ?_
            exact RetRO.yes (n' := 0) (HOP.out.trans (old_m HWI.out HMS.out)) (by rw [HG0.out]; exact H12.out) S12.out hq9 (fun i hi => by
              rcases T12.out.set i hi with h | h
              · exact HPQ.out i h
              · omega)
          · have hzb : (z1 != 0) = true := by simp [hz3]
            have HZN := Lib.hid hz3
            clear hz3
            go_wp2_with fail
            refine HSY.out.mono ?_
            rintro e w12 ⟨rfl, cs12, h12, s12⟩
            have H12 := Lib.hid h12
            have S12 := Lib.hid (S11.out.trans s12)
            clear h12 s12 x1
            go_wp2
            refine bodyPost_ret (results_tmp2 rfl _ _ _) rfl ?_
            exact RetRO.no (HOP.out.trans (old_m HWI.out HMS.out)) HZN.out H12.out S12.out

      · have HWI0 : Hid (wipeR d ((1 : Int) - (0 : Nat)) (fileB d (1 - 0)).length = cutR d 1 0) := Lib.hid (by rw [wipe_cut (show 0 < (fileB d (1 - 0)).length by show 0 < (fileB d 1).length; omega)]; rfl)
        have hzi : decide (0 < (n10 : Int)) = true := decide_eq_true (by omega)
        have hzp : 0 < n10 := by omega
        obtain ⟨⟨d1, x1⟩, hcr⟩ : ∃ r, cutR d 1 0 = r := ⟨_, rfl⟩
        have HCR := Lib.hid hcr
        rw [hcr] at HWI0
        have HCUT := Lib.hid (call_cut H10.out.at_ (HK.out.fit (by omega) (by omega)) 1 0 (by omega) hcr)
        have HKC : Hid (Ok d1 S (N + 1)) := Lib.hid (by have := HK.out.cut 1 0; rw [hcr] at this; exact this)
        have HFC : Hid (x1 = 0 → fileB d1 0 = fileB d 0) := Lib.hid fun hx => by
          have := cut_other (d := d) (f := 1) (g := 0) (by omega) (by omega) (by omega) 0
          rw [show ((1 : Nat) : Int) = 1 from rfl, hcr] at this
          exact this hx
        clear hcr hl10 hz
        dsimp only at HCUT
        by_cases hx : x1 = 0
        · subst hx
          have HFB1 := Lib.hid (HFC.out rfl)
          clear HFC
          go_wp2_with fail
          refine HCUT.out.mono ?_
          rintro e w11 ⟨rfl, cs11, h11, s11⟩
          have H11 := Lib.hid (H10.out.disk s11 h11)
          have S11 := Lib.hid (S10.out.trans s11)
          have T11 := Lib.hid (T10.out.trans (RVt.disk s11))
          have HK1 := HKC
          have HWI := HWI0
          clear h11 s11 HCUT HKC HWI0
          obtain ⟨Ab, nb, cb, Bb, mb, eb, cellsb, hbx, hsn, hrc⟩ := H11.out.ex
          obtain ⟨x0, x1, x2, x3, x4, x5⟩ := hbx.cells
          clear hbx hsn hrc x0 x2 x3 x4 x5
          have hbk : base ≤ w11.heap.size := H11.out.at_.base_le
          have HALL2 := Lib.hid (rall0 H11.out.at_ (HK1.out.fit (by omega) (by omega)).b)
          rw [HFB1.out] at HALL2
          go_wp2_with fail
          refine HALL2.out.mono ?_
          rintro e w12 ⟨A12, n12, c12, rfl, ho, hb⟩
          have hl12 := ho.len
          have H12 := Lib.hid (H11.out.below hb)
          have T12 := Lib.hid (T11.out.trans (RVt.below hb hbk))
          have S12 := Lib.hid (S11.out.trans (DStep.below (p := p) (cs := cs11) hb hbk))
          clear ho hb HALL2 x1 hbk
          obtain ⟨Ac, nc, cc, Bc, mc, ec, cellsc, hbx, hsn, hrc⟩ := H12.out.ex
          obtain ⟨x0, x1, x2, x3, x4, x5⟩ := hbx.cells
          clear hbx hsn hrc x0 x2 x3 x4 x5
          by_cases hcut : en0 < n12
          · have hci : decide ((en0 : Int) < (n12 : Int)) = true := decide_eq_true (by omega)
            obtain ⟨⟨d2, y1⟩, hcr⟩ : ∃ r, cutR d1 0 (en0 : Nat) = r := ⟨_, rfl⟩
            have HCR2 := Lib.hid hcr
            have HLE : Hid (((E (fileB d 0) : Nat) : Int) < (fileB d 0).length) := Lib.hid (by rw [HEN0.out, hl12]; omega)
            have HCUT2 := Lib.hid (call_cut H12.out.at_ (HK1.out.fit (by omega) (by omega)) 0 (en0 : Nat) (by omega) hcr)
            have HK2 : Hid (Ok d2 S (N + 2)) := Lib.hid (by have := HK1.out.cut 0 (en0 : Nat); rw [hcr] at this; exact this)
            clear hcr hl12
            dsimp only at HCUT2
            by_cases hy : y1 = 0
            · subst hy
              go_wp2_with fail
              refine HCUT2.out.mono ?_
              rintro e w13 ⟨rfl, cs13, h13, s13⟩
              have H13 := Lib.hid (H12.out.disk s13 h13)
              have S13 := Lib.hid (S12.out.trans s13)
              have T13 := Lib.hid (T12.out.trans (RVt.disk s13))
              clear h13 s13 HCUT2 x1
              have HME := Lib.hid (fun r (h : syncR d2 0 = r) => (mend_cs HLE.out (by rw [HEN0.out]; exact HCR2.out)).trans h)
              obtain ⟨⟨d3, z1⟩, hcr⟩ : ∃ r, syncR d2 0 = r := ⟨_, rfl⟩
              have HMS := Lib.hid (HME.out _ hcr)
              have HSY := Lib.hid (call_sync H13.out.at_ (HK2.out.fit (by omega) (by omega)) 0 hcr)
              clear hcr
              dsimp only at HSY
              obtain ⟨Ad, nd, cd, Bd, md, ed, cellsd, hbx, hsn, hrc⟩ := H13.out.ex
              obtain ⟨x0, x1, x2, x3, x4, x5⟩ := hbx.cells
              clear hbx hsn hrc x0 x2 x3 x4 x5
              by_cases hz3 : z1 = 0
              · subst hz3
                go_wp2_with fail
                refine HSY.out.mono ?_
                rintro e w14 ⟨rfl, cs14, h14, s14⟩
                have H14 := Lib.hid (H13.out.disk s14 h14)
                have S14 := Lib.hid (S13.out.trans s14)
                have T14 := Lib.hid (T13.out.trans (RVt.disk s14))
                clear h14 s14 x1
                go_wp2
                refine bodyPost_ret (results_tmp2 rfl _ _ _) rfl ?_
                exact RetRO.yes (n' := 0) (HOP.out.trans (old_m HWI.out HMS.out)) (by rw [HG0.out]; exact H14.out) S14.out hq9 (fun i hi => by
                  rcases T14.out.set i hi with h | h
                  · exact HPQ.out i h
                  · omega)
              · have hzb : (z1 != 0) = true := by simp [hz3]
                have HZN := Lib.hid hz3
                clear hz3
                go_wp2_with fail
                refine HSY.out.mono ?_
                rintro e w14 ⟨rfl, cs14, h14, s14⟩
                have H14 := Lib.hid h14
                have S14 := Lib.hid (S13.out.trans s14)
                clear h14 s14 x1
                go_wp2
                refine bodyPost_ret (results_tmp2 rfl _ _ _) rfl ?_
                exact RetRO.no (HOP.out.trans (old_m HWI.out HMS.out)) HZN.out H14.out S14.out

            · have hyb : (y1 != 0) = true := by simp [hy]
              have HYN := Lib.hid hy
              have HCR3 : Hid (cutR d1 (0 : Nat) ((E (fileB d 0) : Nat) : Int) = (d2, y1)) := Lib.hid (by rw [HEN0.out]; exact HCR2.out)
              clear hy
              go_wp2_with fail
              refine HCUT2.out.mono ?_
              rintro e w13 ⟨rfl, cs13, h13, s13⟩
              have H13 := Lib.hid h13
              have S13 := Lib.hid (S12.out.trans s13)
              clear h13 s13 x1
              go_wp2
              refine bodyPost_ret (results_tmp2 rfl _ _ _) rfl ?_
              exact RetRO.no (HOP.out.trans (old_m HWI.out (mend_c HLE.out HCR3.out HYN.out))) HYN.out H13.out S13.out
          · have hci : decide ((en0 : Int) < (n12 : Int)) = false := decide_eq_false (by omega)
            have HLE : Hid (¬ ((E (fileB d 0) : Nat) : Int) < (fileB d 0).length) := Lib.hid (by rw [HEN0.out, hl12]; omega)
            have HME := Lib.hid (fun r (h : syncR d1 0 = r) => (mend_s HLE.out).trans h)
            clear hl12 x1
            obtain ⟨⟨d3, z1⟩, hcr⟩ : ∃ r, syncR d1 0 = r := ⟨_, rfl⟩
            have HMS := Lib.hid (HME.out _ hcr)
            have HSY := Lib.hid (call_sync H12.out.at_ (HK1.out.fit (by omega) (by omega)) 0 hcr)
            clear hcr
            dsimp only at HSY
            obtain ⟨Ad, nd, cd, Bd, md, ed, cellsd, hbx, hsn, hrc⟩ := H12.out.ex
            obtain ⟨x0, x1, x2, x3, x4, x5⟩ := hbx.cells
            clear hbx hsn hrc x0 x2 x3 x4 x5
            by_cases hz3 : z1 = 0
            · subst hz3
              go_wp2_with fail
              refine HSY.out.mono ?_
              rintro e w13 ⟨rfl, cs13, h13, s13⟩
              have H13 := Lib.hid (H12.out.disk s13 h13)
              have S13 := Lib.hid (S12.out.trans s13)
              have T13 := Lib.hid (T12.out.trans (RVt.disk s13))
              clear h13 s13 x1
              go_wp2
              refine bodyPost_ret (results_tmp2 rfl _ _ _) rfl ?_
              exact RetRO.yes (n' := 0) (HOP.out.trans (old_m HWI.out HMS.out)) (by rw [HG0.out]; exact H13.out) S13.out hq9 (fun i hi => by
                rcases T13.out.set i hi with h | h
                · exact HPQ.out i h
                · omega)
            · have hzb : (z1 != 0) = true := by simp [hz3]
              have HZN := Lib.hid hz3
              clear hz3
              go_wp2_with fail
              refine HSY.out.mono ?_
              rintro e w13 ⟨rfl, cs13, h13, s13⟩
              have H13 := Lib.hid h13
              have S13 := Lib.hid (S12.out.trans s13)
              clear h13 s13 x1
              go_wp2
              refine bodyPost_ret (results_tmp2 rfl _ _ _) rfl ?_
              exact RetRO.no (HOP.out.trans (old_m HWI.out HMS.out)) HZN.out H13.out S13.out

        · have hxb : (x1 != 0) = true := by simp [hx]
          have HXN := Lib.hid hx
          clear hx
          go_wp2_with fail
          refine HCUT.out.mono ?_
          rintro e w11 ⟨rfl, cs11, h11, s11⟩
          have H11 := Lib.hid h11
          have S11 := Lib.hid (S10.out.trans s11)
          clear h11 s11
          go_wp2
          refine bodyPost_ret (results_tmp2 rfl _ _ _) rfl ?_
          exact RetRO.no (HOP.out.trans (old_w HWI0.out HXN.out)) HXN.out H11.out S11.out
end Go.Proofs.YtfinaikgikifcaaDoor.vref
/- What the law's held computes: the two disks and the two vaults are the same. -/
namespace Go.Proofs.YtfinaikgikifcaaDoor.vaulth
open Go.RowKit Go.Shelf Go.Proofs.YtfinaikgikifcaaDoorW.PrintWords Go.Proofs.YtfinaikgikifcaaDoor.base Go.Proofs.YtfinaikgikifcaaDoor.mem Go.Proofs.YtfinaikgikifcaaDoor.keep Go.Proofs.YtfinaikgikifcaaDoor.samew Go.Proofs.YtfinaikgikifcaaDoor.diskp Go.Proofs.YtfinaikgikifcaaDoor.diskr Go.Proofs.YtfinaikgikifcaaDoor.diskw Go.Proofs.YtfinaikgikifcaaDoor.refr Go.Proofs.YtfinaikgikifcaaDoor.refw Go.Proofs.YtfinaikgikifcaaDoor.clone Go.Proofs.YtfinaikgikifcaaDoor.vaultp Go.Proofs.YtfinaikgikifcaaDoor.vaultw Go.Proofs.YtfinaikgikifcaaDoor.vref

def RetT (w : World) (e : Ending) (w' : World) : Prop := e = .returned (.bool true) ∧ Below w.heap.size w w'
set_option maxHeartbeats 8000000 in
set_option maxRecDepth 100000 in
theorem held_nil {w : World} {b1 b2 p1 p2 : Nat} {cs1 cs2 : Nat → Sl} {d : D} {S N : Nat} (h1 : DAt w b1 p1 cs1 d) (h2 : RAt w b2 p2 cs2 d) (hk : Ok d S N) (hS : S ≤ 70368744177664) (hN : N ≤ 4611686018427387904) :
    Calls Tryd.prog 30 #[.pointer (some ⟨p1, 0, none⟩), .pointer (some ⟨p2, 0, none⟩), (.pointer none), (.pointer none)] w (RetT w) := by
  have hsb := Lib.hid (hk.fit hS hN).b
  have D0 := Lib.hid (Below.refl w.heap.size w).drew
  have H0 := Lib.hid (h1.below D0.out)
  have HO := Lib.hid h2
  have HD := Lib.hid h1
  obtain ⟨y0, _, y1, _, y4, y5, _, _⟩ := h2.cells
  have R0 := Lib.hid (h2.row 0 (by omega)).rd
  have R2 := Lib.hid (h2.row 2 (by omega)).rd
  clear h1 h2 hk
  obtain ⟨ob, hob⟩ : ∃ ob, d.off = ob := ⟨_, rfl⟩
  obtain ⟨nb, hnb⟩ : ∃ nb, (!ob) = nb := ⟨_, rfl⟩
  rw [hob, hnb] at y4
  have hbn : (!nb) = ob := by rw [← hnb, Bool.not_not]
  have HNB := Lib.hid hnb
  have HOB := Lib.hid hob
  clear hob hnb
  obtain ⟨dn, hdn⟩ : ∃ dn, d.n = dn := ⟨_, rfl⟩
  rw [hdn] at y5
  have HDN := Lib.hid hdn
  clear hdn
  obtain ⟨sA, hsA⟩ : ∃ x, (cs2 0).A = x := ⟨_, rfl⟩
  obtain ⟨sn, hsn⟩ : ∃ x, (cs2 0).n = x := ⟨_, rfl⟩
  obtain ⟨sc, hsc⟩ : ∃ x, (cs2 0).c = x := ⟨_, rfl⟩
  obtain ⟨uA, huA⟩ : ∃ x, (cs2 2).A = x := ⟨_, rfl⟩
  obtain ⟨un, hun⟩ : ∃ x, (cs2 2).n = x := ⟨_, rfl⟩
  obtain ⟨uc, huc⟩ : ∃ x, (cs2 2).c = x := ⟨_, rfl⟩
  rw [hsA, hsn, hsc] at y0
  rw [huA, hun, huc] at y1
  have R0 : Hid (RdB w sA sn (d.b 0)) := Lib.hid (by rw [← hsA, ← hsn]; exact R0.out)
  have R2 : Hid (RdB w uA un (d.b 2)) := Lib.hid (by rw [← huA, ← hun]; exact R2.out)
  clear hsA hsn hsc huA hun huc
  have HY0 := Lib.hid y0
  have HY1 := Lib.hid y1
  have HY4 := Lib.hid y4
  have HY5 := Lib.hid y5
  have hoo : (ob != ob) = false := by simp
  have hnn : (dn != dn) = false := by simp
  have CDN := Lib.hid (down_any H0.out)
  have CWR := Lib.hid (writes_any H0.out)
  have CS0 := Lib.hid (safe_any H0.out hsb.out 0)
  rw [HOB.out] at CDN
  rw [HDN.out] at CWR
  go_enter Tryd.func30, Tryd.ntmps30
  go_wp2_with fail
  go_region_held3 (fun W : World => W.cell? ⟨p2, 4, none⟩ = some (.bool nb) ∧ W.cell? ⟨p2, 5, none⟩ = some (.int .i64 dn) ∧ W.cell? ⟨p2, 0, none⟩ = some (.slice sA sn sc) ∧ W.cell? ⟨p2, 1, none⟩ = some (.slice uA un uc)) (first | assumption | exact ⟨by assumption, by assumption, by assumption, by assumption⟩) (first | (go_at_call 21; ((with_reducible refine CDN.out.mono ?_)); rintro e w' ⟨rfl, rfl⟩) | (go_at_call 12; ((with_reducible refine CWR.out.mono ?_)); rintro e w' ⟨rfl, rfl⟩) | (go_at_call 47; ((with_reducible refine CS0.out.mono ?_)); rintro e w8 ⟨A8, n8, c8, rfl, ho8, hb8⟩; have B8 := Lib.hid (D0.out.trans (hb8.mono D0.out.size)); have z4b := pw_cell_below B8.out HY4.out; have z5b := pw_cell_below B8.out HY5.out; have z0b := pw_cell_below B8.out HY0.out; have z1b := pw_cell_below B8.out HY1.out; have CS2 := Lib.hid (same_any A8 n8 c8 _ sA sn sc (d.b 0) w8 ho8.rd (R0.out.below B8.out)); rw [show safeR d 0 = d.b 0 from rfl, eqL_self] at CS2; clear ho8 hb8) | (go_at_call 13; ((with_reducible refine CS2.out.mono ?_)); rintro e w9 ⟨rfl, hd9⟩; have B9 := Lib.hid (B8.out.trans (hd9.below.mono B8.out.size)); have H9 := Lib.hid (HD.out.below B9.out); have z4c := pw_cell_below B9.out HY4.out; have z5c := pw_cell_below B9.out HY5.out; have z0c := pw_cell_below B9.out HY0.out; have z1c := pw_cell_below B9.out HY1.out; have CS3 := Lib.hid (safe_any H9.out hsb.out 1); clear hd9) | (go_at_call 47; ((with_reducible refine CS3.out.mono ?_)); rintro e w10 ⟨A10, n10, c10, rfl, ho10, hb10⟩; have B10 := Lib.hid (B9.out.trans (hb10.mono B9.out.size)); have z4d := pw_cell_below B10.out HY4.out; have z5d := pw_cell_below B10.out HY5.out; have z0d := pw_cell_below B10.out HY0.out; have z1d := pw_cell_below B10.out HY1.out; have CS4 := Lib.hid (same_any A10 n10 c10 _ uA un uc (d.b 2) w10 ho10.rd (R2.out.below B10.out)); rw [show safeR d 1 = d.b 2 from rfl, eqL_self] at CS4; clear ho10 hb10) | (go_at_call 13; ((with_reducible refine CS4.out.mono ?_)); rintro e w11 ⟨rfl, hd11⟩; have B11 := Lib.hid (B10.out.trans (hd11.below.mono B10.out.size)); have z4e := pw_cell_below B11.out HY4.out; have z5e := pw_cell_below B11.out HY5.out; have z0e := pw_cell_below B11.out HY0.out; have z1e := pw_cell_below B11.out HY1.out; clear hd11))
  have HB7 := Lib.hid B11.out
  have H7 := Lib.hid (HD.out.below B11.out)
  have O7 := Lib.hid (HO.out.below B11.out)
  have hs7 := B11.out.size
  cases nb with
  | true =>
    obtain rfl : false = ob := hbn
    clear hoo
    have HOF : Hid (d.off = false) := Lib.hid (by have h := HNB.out; rw [← HOB.out] at h; simpa using h)
    have HR0 := Lib.hid (read_any H7.out hsb.out 0)
    have E0 : Hid (readR d 0 = (fileB d 0, 0)) := Lib.hid (by unfold readR rdy; rw [HOF.out]; rfl)
    have E1 : Hid (readR d 1 = (fileB d 1, 0)) := Lib.hid (by unfold readR rdy; rw [HOF.out]; rfl)
    rw [E0.out] at HR0
    go_wp2_with fail
    refine HR0.out.mono ?_
    rintro e w12 ⟨A12, n12, c12, rfl, ho12, hb12⟩
    have B12 := Lib.hid (HB7.out.trans (hb12.mono hs7))
    have HRD0 := Lib.hid ho12.rd
    have HR1 := Lib.hid (read_any (HD.out.below B12.out) hsb.out 1)
    rw [E1.out] at HR1
    clear ho12 hb12
    go_wp2_with fail
    refine HR1.out.mono ?_
    rintro e w13 ⟨A13, n13, c13, rfl, ho13, hb13⟩
    have B13 := Lib.hid (B12.out.trans (hb13.mono B12.out.size))
    have HRA := Lib.hid (HRD0.out.below hb13)
    have HRB := Lib.hid ho13.rd
    have CA0 := Lib.hid (rall0 (HO.out.below B13.out) hsb.out)
    clear ho13 hb13
    go_wp2_with fail
    refine CA0.out.mono ?_
    rintro e w14 ⟨A14, n14, c14, rfl, ho14, hb14⟩
    have B14 := Lib.hid (B13.out.trans (hb14.mono B13.out.size))
    have HRB14 := Lib.hid (HRB.out.below hb14)
    have CQ0 := Lib.hid (same_any A12 n12 c12 _ A14 n14 c14 _ w14 (HRA.out.below hb14) ho14.rd)
    rw [eqL_self] at CQ0
    clear ho14 hb14
    go_wp2_with fail
    refine CQ0.out.mono ?_
    rintro e w15 ⟨rfl, hd15⟩
    have B15 := Lib.hid (B14.out.trans (hd15.below.mono B14.out.size))
    have HRB15 := Lib.hid (HRB14.out.below hd15.below)
    have CA1 := Lib.hid (rall1 (HO.out.below B15.out) hsb.out)
    clear hd15
    go_wp2_with fail
    refine CA1.out.mono ?_
    rintro e w16 ⟨A16, n16, c16, rfl, ho16, hb16⟩
    have B16 := Lib.hid (B15.out.trans (hb16.mono B15.out.size))
    have CQ1 := Lib.hid (same_any A13 n13 c13 _ A16 n16 c16 _ w16 (HRB15.out.below hb16) ho16.rd)
    rw [eqL_self] at CQ1
    clear ho16 hb16
    go_wp2_with fail
    refine CQ1.out.mono ?_
    rintro e w17 ⟨rfl, hd17⟩
    have BF := Lib.hid (B16.out.trans (hd17.below.mono B16.out.size))
    clear hd17
    go_wp2
    go_ret
    exact ⟨rfl, BF.out⟩
  | false =>
    obtain rfl : true = ob := hbn
    clear hoo
    have BF := HB7
    clear y0 y1 y4 y5
    go_wp2
    go_ret
    exact ⟨rfl, BF.out⟩
set_option maxHeartbeats 8000000 in
set_option maxRecDepth 100000 in
theorem held_some {w : World} {b1 b2 p1 p2 q1 q2 m n c e : Nat} {f g s f' s' : Int} {A B : Option Addr} {cs1 cs2 : Nat → Sl} {d : D} {S N : Nat} (h1 : DAt w b1 p1 cs1 d) (h2 : RAt w b2 p2 cs2 d) (hk : Ok d S N) (hS : S ≤ 70368744177664) (hN : N ≤ 4611686018427387904) (hv : VB w q1 p1 f g m s) (hr : RB w q2 p2 f' g A n c B m e s') :
    Calls Tryd.prog 30 #[.pointer (some ⟨p1, 0, none⟩), .pointer (some ⟨p2, 0, none⟩), (.pointer (some ⟨q1, 0, none⟩)), (.pointer (some ⟨q2, 0, none⟩))] w (RetT w) := by
  have hsb := Lib.hid (hk.fit hS hN).b
  have D0 := Lib.hid (Below.refl w.heap.size w).drew
  have H0 := Lib.hid (h1.below D0.out)
  have HO := Lib.hid h2
  have HD := Lib.hid h1
  obtain ⟨y0, _, y1, _, y4, y5, _, _⟩ := h2.cells
  have R0 := Lib.hid (h2.row 0 (by omega)).rd
  have R2 := Lib.hid (h2.row 2 (by omega)).rd
  have HV := Lib.hid hv
  have HRB0 := Lib.hid hr
  clear hv hr
  clear h1 h2 hk
  obtain ⟨ob, hob⟩ : ∃ ob, d.off = ob := ⟨_, rfl⟩
  obtain ⟨nb, hnb⟩ : ∃ nb, (!ob) = nb := ⟨_, rfl⟩
  rw [hob, hnb] at y4
  have hbn : (!nb) = ob := by rw [← hnb, Bool.not_not]
  have HNB := Lib.hid hnb
  have HOB := Lib.hid hob
  clear hob hnb
  obtain ⟨dn, hdn⟩ : ∃ dn, d.n = dn := ⟨_, rfl⟩
  rw [hdn] at y5
  have HDN := Lib.hid hdn
  clear hdn
  obtain ⟨sA, hsA⟩ : ∃ x, (cs2 0).A = x := ⟨_, rfl⟩
  obtain ⟨sn, hsn⟩ : ∃ x, (cs2 0).n = x := ⟨_, rfl⟩
  obtain ⟨sc, hsc⟩ : ∃ x, (cs2 0).c = x := ⟨_, rfl⟩
  obtain ⟨uA, huA⟩ : ∃ x, (cs2 2).A = x := ⟨_, rfl⟩
  obtain ⟨un, hun⟩ : ∃ x, (cs2 2).n = x := ⟨_, rfl⟩
  obtain ⟨uc, huc⟩ : ∃ x, (cs2 2).c = x := ⟨_, rfl⟩
  rw [hsA, hsn, hsc] at y0
  rw [huA, hun, huc] at y1
  have R0 : Hid (RdB w sA sn (d.b 0)) := Lib.hid (by rw [← hsA, ← hsn]; exact R0.out)
  have R2 : Hid (RdB w uA un (d.b 2)) := Lib.hid (by rw [← huA, ← hun]; exact R2.out)
  clear hsA hsn hsc huA hun huc
  have HY0 := Lib.hid y0
  have HY1 := Lib.hid y1
  have HY4 := Lib.hid y4
  have HY5 := Lib.hid y5
  have hoo : (ob != ob) = false := by simp
  have hnn : (dn != dn) = false := by simp
  have CDN := Lib.hid (down_any H0.out)
  have CWR := Lib.hid (writes_any H0.out)
  have CS0 := Lib.hid (safe_any H0.out hsb.out 0)
  rw [HOB.out] at CDN
  rw [HDN.out] at CWR
  go_enter Tryd.func30, Tryd.ntmps30
  go_wp2_with fail
  go_region_held3 (fun W : World => W.cell? ⟨p2, 4, none⟩ = some (.bool nb) ∧ W.cell? ⟨p2, 5, none⟩ = some (.int .i64 dn) ∧ W.cell? ⟨p2, 0, none⟩ = some (.slice sA sn sc) ∧ W.cell? ⟨p2, 1, none⟩ = some (.slice uA un uc)) (first | assumption | exact ⟨by assumption, by assumption, by assumption, by assumption⟩) (first | (go_at_call 21; ((with_reducible refine CDN.out.mono ?_)); rintro e w' ⟨rfl, rfl⟩) | (go_at_call 12; ((with_reducible refine CWR.out.mono ?_)); rintro e w' ⟨rfl, rfl⟩) | (go_at_call 47; ((with_reducible refine CS0.out.mono ?_)); rintro e w8 ⟨A8, n8, c8, rfl, ho8, hb8⟩; have B8 := Lib.hid (D0.out.trans (hb8.mono D0.out.size)); have z4b := pw_cell_below B8.out HY4.out; have z5b := pw_cell_below B8.out HY5.out; have z0b := pw_cell_below B8.out HY0.out; have z1b := pw_cell_below B8.out HY1.out; have CS2 := Lib.hid (same_any A8 n8 c8 _ sA sn sc (d.b 0) w8 ho8.rd (R0.out.below B8.out)); rw [show safeR d 0 = d.b 0 from rfl, eqL_self] at CS2; clear ho8 hb8) | (go_at_call 13; ((with_reducible refine CS2.out.mono ?_)); rintro e w9 ⟨rfl, hd9⟩; have B9 := Lib.hid (B8.out.trans (hd9.below.mono B8.out.size)); have H9 := Lib.hid (HD.out.below B9.out); have z4c := pw_cell_below B9.out HY4.out; have z5c := pw_cell_below B9.out HY5.out; have z0c := pw_cell_below B9.out HY0.out; have z1c := pw_cell_below B9.out HY1.out; have CS3 := Lib.hid (safe_any H9.out hsb.out 1); clear hd9) | (go_at_call 47; ((with_reducible refine CS3.out.mono ?_)); rintro e w10 ⟨A10, n10, c10, rfl, ho10, hb10⟩; have B10 := Lib.hid (B9.out.trans (hb10.mono B9.out.size)); have z4d := pw_cell_below B10.out HY4.out; have z5d := pw_cell_below B10.out HY5.out; have z0d := pw_cell_below B10.out HY0.out; have z1d := pw_cell_below B10.out HY1.out; have CS4 := Lib.hid (same_any A10 n10 c10 _ uA un uc (d.b 2) w10 ho10.rd (R2.out.below B10.out)); rw [show safeR d 1 = d.b 2 from rfl, eqL_self] at CS4; clear ho10 hb10) | (go_at_call 13; ((with_reducible refine CS4.out.mono ?_)); rintro e w11 ⟨rfl, hd11⟩; have B11 := Lib.hid (B10.out.trans (hd11.below.mono B10.out.size)); have z4e := pw_cell_below B11.out HY4.out; have z5e := pw_cell_below B11.out HY5.out; have z0e := pw_cell_below B11.out HY0.out; have z1e := pw_cell_below B11.out HY1.out; clear hd11))
  have HB7 := Lib.hid B11.out
  have H7 := Lib.hid (HD.out.below B11.out)
  have O7 := Lib.hid (HO.out.below B11.out)
  have hs7 := B11.out.size
  cases nb with
  | true =>
    obtain rfl : false = ob := hbn
    clear hoo
    have HOF : Hid (d.off = false) := Lib.hid (by have h := HNB.out; rw [← HOB.out] at h; simpa using h)
    have HR0 := Lib.hid (read_any H7.out hsb.out 0)
    have E0 : Hid (readR d 0 = (fileB d 0, 0)) := Lib.hid (by unfold readR rdy; rw [HOF.out]; rfl)
    have E1 : Hid (readR d 1 = (fileB d 1, 0)) := Lib.hid (by unfold readR rdy; rw [HOF.out]; rfl)
    rw [E0.out] at HR0
    go_wp2_with fail
    refine HR0.out.mono ?_
    rintro e w12 ⟨A12, n12, c12, rfl, ho12, hb12⟩
    have B12 := Lib.hid (HB7.out.trans (hb12.mono hs7))
    have HRD0 := Lib.hid ho12.rd
    have HR1 := Lib.hid (read_any (HD.out.below B12.out) hsb.out 1)
    rw [E1.out] at HR1
    clear ho12 hb12
    go_wp2_with fail
    refine HR1.out.mono ?_
    rintro e w13 ⟨A13, n13, c13, rfl, ho13, hb13⟩
    have B13 := Lib.hid (B12.out.trans (hb13.mono B12.out.size))
    have HRA := Lib.hid (HRD0.out.below hb13)
    have HRB := Lib.hid ho13.rd
    have CA0 := Lib.hid (rall0 (HO.out.below B13.out) hsb.out)
    clear ho13 hb13
    go_wp2_with fail
    refine CA0.out.mono ?_
    rintro e w14 ⟨A14, n14, c14, rfl, ho14, hb14⟩
    have B14 := Lib.hid (B13.out.trans (hb14.mono B13.out.size))
    have HRB14 := Lib.hid (HRB.out.below hb14)
    have CQ0 := Lib.hid (same_any A12 n12 c12 _ A14 n14 c14 _ w14 (HRA.out.below hb14) ho14.rd)
    rw [eqL_self] at CQ0
    clear ho14 hb14
    go_wp2_with fail
    refine CQ0.out.mono ?_
    rintro e w15 ⟨rfl, hd15⟩
    have B15 := Lib.hid (B14.out.trans (hd15.below.mono B14.out.size))
    have HRB15 := Lib.hid (HRB14.out.below hd15.below)
    have CA1 := Lib.hid (rall1 (HO.out.below B15.out) hsb.out)
    clear hd15
    go_wp2_with fail
    refine CA1.out.mono ?_
    rintro e w16 ⟨A16, n16, c16, rfl, ho16, hb16⟩
    have B16 := Lib.hid (B15.out.trans (hb16.mono B15.out.size))
    have CQ1 := Lib.hid (same_any A13 n13 c13 _ A16 n16 c16 _ w16 (HRB15.out.below hb16) ho16.rd)
    rw [eqL_self] at CQ1
    clear ho16 hb16
    go_wp2_with fail
    refine CQ1.out.mono ?_
    rintro e w17 ⟨rfl, hd17⟩
    have BF := Lib.hid (B16.out.trans (hd17.below.mono B16.out.size))
    clear hd17
    have HVF := Lib.hid (HV.out.below BF.out)
    have HRF := Lib.hid (HRB0.out.below BF.out)
    obtain ⟨_, _, v2, _, v4, _⟩ := HRF.out.cells
    have DF := Lib.hid (Below.refl w17.heap.size w17).drew
    have CC := Lib.hid (count_any (HVF.out.below DF.out))
    have CG := Lib.hid (generation_any (HVF.out.below DF.out))
    have hmm : ((m : Int) == (m : Int)) = true := by simp
    have hgg : (g == g) = true := by simp
    go_wp2_with fail
    go_region_held3 (fun W : World => W.cell? ⟨q2, 2, none⟩ = some (.int .i64 g) ∧ W.cell? ⟨q2, 4, none⟩ = some (.slice B m e)) (first | assumption | exact ⟨by assumption, by assumption⟩) (first | (go_at_call 16; ((with_reducible refine CC.out.mono ?_)); rintro e w' ⟨rfl, rfl⟩) | (go_at_call 15; ((with_reducible refine CG.out.mono ?_)); rintro e w' ⟨rfl, rfl⟩))
    go_wp2
    go_ret
    exact ⟨rfl, BF.out.drew⟩
  | false =>
    obtain rfl : true = ob := hbn
    clear hoo
    have BF := HB7
    clear y0 y1 y4 y5
    have HVF := Lib.hid (HV.out.below BF.out)
    have HRF := Lib.hid (HRB0.out.below BF.out)
    obtain ⟨_, _, v2, _, v4, _⟩ := HRF.out.cells
    have DF := Lib.hid (Below.refl w11.heap.size w11).drew
    have CC := Lib.hid (count_any (HVF.out.below DF.out))
    have CG := Lib.hid (generation_any (HVF.out.below DF.out))
    have hmm : ((m : Int) == (m : Int)) = true := by simp
    have hgg : (g == g) = true := by simp
    go_wp2_with fail
    go_region_held3 (fun W : World => W.cell? ⟨q2, 2, none⟩ = some (.int .i64 g) ∧ W.cell? ⟨q2, 4, none⟩ = some (.slice B m e)) (first | assumption | exact ⟨by assumption, by assumption⟩) (first | (go_at_call 16; ((with_reducible refine CC.out.mono ?_)); rintro e w' ⟨rfl, rfl⟩) | (go_at_call 15; ((with_reducible refine CG.out.mono ?_)); rintro e w' ⟨rfl, rfl⟩))
    go_wp2
    go_ret
    exact ⟨rfl, BF.out.drew⟩
end Go.Proofs.YtfinaikgikifcaaDoor.vaulth
/- vault.Open, where it refuses too. -/
namespace Go.Proofs.YtfinaikgikifcaaDoor.vaulto
open Go.RowKit Go.Shelf Go.Proofs.YtfinaikgikifcaaDoorW.PrintWords Go.Proofs.YtfinaikgikifcaaDoor.base Go.Proofs.YtfinaikgikifcaaDoor.mem Go.Proofs.YtfinaikgikifcaaDoor.keep Go.Proofs.YtfinaikgikifcaaDoor.crcp Go.Proofs.YtfinaikgikifcaaDoor.crcw Go.Proofs.YtfinaikgikifcaaDoor.samew Go.Proofs.YtfinaikgikifcaaDoor.framep Go.Proofs.YtfinaikgikifcaaDoor.framew Go.Proofs.YtfinaikgikifcaaDoor.frameit Go.Proofs.YtfinaikgikifcaaDoor.framem Go.Proofs.YtfinaikgikifcaaDoor.framel Go.Proofs.YtfinaikgikifcaaDoor.framea Go.Proofs.YtfinaikgikifcaaDoor.framer Go.Proofs.YtfinaikgikifcaaDoor.framen Go.Proofs.YtfinaikgikifcaaDoor.framek Go.Proofs.YtfinaikgikifcaaDoor.diskp Go.Proofs.YtfinaikgikifcaaDoor.diskr Go.Proofs.YtfinaikgikifcaaDoor.diskw Go.Proofs.YtfinaikgikifcaaDoor.vaultp Go.Proofs.YtfinaikgikifcaaDoor.vaultw Go.Proofs.YtfinaikgikifcaaDoor.vaultl Go.Proofs.YtfinaikgikifcaaDoor.over
attribute [local go_sem] Oper.semAt_some

theorem RetOp.no {w w' : World} {base p : Nat} {cs : Nat → Sl} {d : D} {r : Opn} {new : Prop} {x : Int} (h : r = ⟨d, x, noV⟩) (hx : x ≠ 0) (h1 : DAt w base p cs d) (hb : Below w.heap.size w w') : RetOp w base p cs r new (.returned (.tuple #[.pointer none, .slice none 0 0, .slice none 0 0, .int .i64 x])) w' := by
  subst h
  exact .inl ⟨hx, rfl, cs, h1.below hb, DStep.below (p := p) (cs := cs) hb h1.base_le⟩
set_option maxHeartbeats 4000000 in
set_option maxRecDepth 100000 in
theorem open_any {w : World} {base p : Nat} {cs : Nat → Sl} {d : D} {S N : Nat} (h : DAt w base p cs d) (hk : Ok d S N) (A : Option Addr) (n c : Nat) (s : List Int) (hsn : ∀ (w' : World) (cs' : Nat → Sl), DStep w base p cs w' cs' → RdB w' A n s) (hn : n + 8 ≤ 140737488355328) (hS : S + 1048584 ≤ 70368744177664) (hN : N + 4 ≤ 4611686018427387904)
    (hp0 : (P (fileB d 0)).length ≤ 5864062014804) (hp1 : (P (fileB d 1)).length ≤ 5864062014804) (ht : Table w) :
    Calls Tryd.prog 11 #[.pointer (some ⟨p, 0, none⟩), .slice A n c] w (RetOp w base p cs (openR d s) ((lookF (fileB d (vaultp.pick d))).1 = 0)) := by
  by_cases hlong : 8 + s.length ≤ 1048576
  case neg =>
    have hr := hsn w cs (DStep.refl _ _ _ _)
    have HF := Lib.hid (first_any 1 (by omega) A n c s w hr hn ht)
    have HFR : Hid (firstR 1 s = ([], 3)) := Lib.hid (if_neg hlong)
    rw [HFR.out] at HF
    have HO : Hid (openR d s = ⟨d, 3, noV⟩) := Lib.hid (if_pos (by omega))
    have H := Lib.hid h
    clear h hk hr hsn ht hp0 hp1 HFR
    go_enter Tryd.func11, Tryd.ntmps11
    go_wp2_with fail
    refine HF.out.mono ?_
    rintro e w2 ⟨A2, n2, c2, rfl, ho, hb⟩
    have HB := Lib.hid hb
    clear ho hb
    go_wp2
    refine bodyPost_ret (results_tmp4 rfl _ _ _) rfl ?_
    exact RetOp.no HO.out (by decide) H.out HB.out
  case pos =>
  cases hoff : d.off
  case false => exact open_on h hk A n c s hsn hlong hS hN hoff hp0 hp1 ht
  case true =>
    have hr := hsn w cs (DStep.refl _ _ _ _)
    have HF := Lib.hid (first_any 1 (by omega) A n c s w hr hn ht)
    have HFR : Hid (firstR 1 s = (firstB 1 s, 0)) := Lib.hid (if_pos hlong)
    rw [HFR.out] at HF
    have HO : Hid (openR d s = ⟨d, 40, noV⟩) := Lib.hid (by unfold openR; rw [if_neg (by omega), hoff, if_pos rfl])
    have H := Lib.hid h
    have HLA := Lib.hid (fun W (hb : Below w.heap.size w W) => look_down (h.below hb) (hk.fit (by omega) (by omega)).b 0 (by omega) hoff)
    clear h hk hr hsn ht hp0 hp1 HFR hoff
    go_enter Tryd.func11, Tryd.ntmps11
    go_wp2_with fail
    refine HF.out.mono ?_
    rintro e w2 ⟨A2, n2, c2, rfl, ho, hb⟩
    have B2 := Lib.hid hb
    have hs2 := hb.size
    clear ho hb
    have B3 := Lib.hid (below_alloc (Below.refl w2.heap.size w2) (.cells #[.int .i64 0, .slice none 0 0, .slice none 0 0, .int .i64 0, .int .i64 0, .int .i64 0, .slice none 0 0, .slice none 0 0, .int .i64 0, .int .i64 0] 67))
    have hb3 : (w2.alloc (.cells #[.int .i64 0, .slice none 0 0, .slice none 0 0, .int .i64 0, .int .i64 0, .int .i64 0, .slice none 0 0, .slice none 0 0, .int .i64 0, .int .i64 0] 67)).heap[w2.heap.size]? = some (.cells #[.int .i64 0, .slice none 0 0, .slice none 0 0, .int .i64 0, .int .i64 0, .int .i64 0, .slice none 0 0, .slice none 0 0, .int .i64 0, .int .i64 0] 67 (0, 0)) := World.alloc_heap_new w2 _
    have hz3 : (w2.alloc (.cells #[.int .i64 0, .slice none 0 0, .slice none 0 0, .int .i64 0, .int .i64 0, .int .i64 0, .slice none 0 0, .slice none 0 0, .int .i64 0, .int .i64 0] 67)).heap.size = w2.heap.size + 1 := by simp
    go_wp2
    generalize w2.alloc (.cells #[.int .i64 0, .slice none 0 0, .slice none 0 0, .int .i64 0, .int .i64 0, .int .i64 0, .slice none 0 0, .slice none 0 0, .int .i64 0, .int .i64 0] 67) = w3 at B3 hb3 hz3 ⊢
    have B23 := Lib.hid (B2.out.trans (B3.out.mono hs2))
    generalize hfb : w2.heap.size = fb at hb3 hz3 hs2 ⊢
    clear hfb B3 B2
    refine wp_loop_rounds 3 ?_
    rw [rounds_succ]
    have HL3 := Lib.hid (HLA.out w3 B23.out)
    go_wp2_with fail
    refine HL3.out.mono ?_
    rintro e w4 ⟨rfl, hb⟩
    have hb4 := (hb.block fb (by omega)).trans hb3
    have B24 := Lib.hid (B23.out.trans (hb.mono (by omega)))
    obtain ⟨cel, fr⟩ := fbox hb4
    clear hb hb3 HL3 hb4
    obtain ⟨q0, q1, q2, q3, q4, q5, q6, q7, q8, q9⟩ := cel
    have f0 := fr 0
    have f1 := fr 1
    have f2 := fr 2
    have f3 := fr 3
    have f4 := fr 4
    clear fr
    unfold keptV
    go_wp2
    refine bodyPost_ret (results_tmp4 rfl _ _ _) rfl ?_
    refine RetOp.no HO.out (by decide) H.out ?_
    exact B24.out.trans (set5_below w4 w.heap.size fb 0 hs2 _ _ _ _ _)
end Go.Proofs.YtfinaikgikifcaaDoor.vaulto
/- Two vaults, the program's and the document's, side by side: what a step of one leaves of the other. -/
namespace Go.Proofs.YtfinaikgikifcaaDoor.vaultv
open Go.RowKit Go.Shelf Go.Proofs.YtfinaikgikifcaaDoorW.PrintWords Go.Proofs.YtfinaikgikifcaaDoor.base Go.Proofs.YtfinaikgikifcaaDoor.mem Go.Proofs.YtfinaikgikifcaaDoor.keep Go.Proofs.YtfinaikgikifcaaDoor.samew Go.Proofs.YtfinaikgikifcaaDoor.framep Go.Proofs.YtfinaikgikifcaaDoor.frameit Go.Proofs.YtfinaikgikifcaaDoor.framea Go.Proofs.YtfinaikgikifcaaDoor.framer Go.Proofs.YtfinaikgikifcaaDoor.framen Go.Proofs.YtfinaikgikifcaaDoor.diskp Go.Proofs.YtfinaikgikifcaaDoor.diskr Go.Proofs.YtfinaikgikifcaaDoor.diskw Go.Proofs.YtfinaikgikifcaaDoor.refr Go.Proofs.YtfinaikgikifcaaDoor.refw Go.Proofs.YtfinaikgikifcaaDoor.vaultp Go.Proofs.YtfinaikgikifcaaDoor.vaultw Go.Proofs.YtfinaikgikifcaaDoor.vaulta Go.Proofs.YtfinaikgikifcaaDoor.vaultl Go.Proofs.YtfinaikgikifcaaDoor.vref

theorem count_le (xs : List Int) : (P xs).length * 8 ≤ xs.length := by
  rw [← pays_P, pays_len]
  exact flist_len xs
theorem recs_le (xs : List Int) : (lookF xs).2.2.length ≤ xs.length := by
  have h := count_le xs
  unfold lookF
  cases hp : P xs with
  | nil => simp [lookP]
  | cons p r =>
    rw [hp] at h
    simp at h
    by_cases hg : goodP p
    · rw [lookP_good r hg]; simp; omega
    · rw [lookP_bad r hg]; simp
/-- numbers of a vault that is there -/
structure Nv (v : Vn) (rs : List (List Int)) (S : Nat) : Prop where
  n : v.n = (rs.length : Nat)
  f : v.f = 0 ∨ v.f = 1
  g : 0 ≤ v.g ∧ v.g ≤ 4611686018427387904
  r : rs.length ≤ S
theorem Nv.app {d : D} {v : Vn} {rs : List (List Int)} {S : Nat} (h : Nv v rs S) (ys : List Int) : Nv (vappR d v ys).2.1 (recsA (vappR d v ys).2.2 rs ys) (S + 1048584) := by
  obtain ⟨h1, h2, h3, h4⟩ := h
  unfold vappR
  split
  · exact ⟨by simpa [recsA] using h1, h2, h3, by simp [recsA]; omega⟩
  · split
    · rename_i hs
      exact ⟨by simpa [recsA, hs] using h1, h2, h3, by simp [recsA, hs]; omega⟩
    · split
      · rename_i hb
        exact ⟨by simpa [recsA, hb] using h1, h2, h3, by simp [recsA, hb]; omega⟩
      · exact ⟨by simp [recsA]; omega, h2, h3, by simp [recsA]; omega⟩
theorem Nv.ck {d : D} {v : Vn} {rs : List (List Int)} {S : Nat} (h : Nv v rs S) (s : List Int) : Nv (vckR d v s).2.1 (recsC v.g (vckR d v s).2.1.g rs) (S + 1048584) := by
  obtain ⟨h1, h2, h3, h4⟩ := h
  unfold vckR
  split
  · exact ⟨by rw [recsC_no]; exact h1, h2, h3, by rw [recsC_no]; omega⟩
  · split
    · exact ⟨by rw [recsC_no]; exact h1, h2, h3, by rw [recsC_no]; omega⟩
    · split
      · exact ⟨by rw [recsC_no]; exact h1, h2, h3, by rw [recsC_no]; omega⟩
      · split
        · exact ⟨by rw [recsC_no]; exact h1, h2, h3, by rw [recsC_no]; omega⟩
        · split
          · exact ⟨by rw [recsC_ok]; rfl, by show 1 - v.f = 0 ∨ 1 - v.f = 1; omega, by show 0 ≤ v.g + 1 ∧ v.g + 1 ≤ 4611686018427387904; omega, by rw [recsC_ok]; simp⟩
          · exact ⟨by rw [recsC_ok]; rfl, by show 1 - v.f = 0 ∨ 1 - v.f = 1; omega, by show 0 ≤ v.g + 1 ∧ v.g + 1 ≤ 4611686018427387904; omega, by rw [recsC_ok]; simp⟩
/-- two disks beside each other -/
structure Dk (w : World) (b p1 p2 : Nat) (cs1 cs2 : Nat → Sl) (d1 d2 : D) : Prop where
  one : DAt w b p1 cs1 d1
  two : RAt w b p2 cs2 d2
  dis : ∀ g, Ft p1 cs1 g → ¬ Ft p2 cs2 g
/-- two vaults on them -/
structure Vk (w : World) (b p1 p2 q1 q2 : Nat) (cs1 cs2 : Nat → Sl) (P : Nat → Prop) (d1 : D) (v1 : Vn) (d2 : D) (v2 : Vn) (s : List Int) (rs : List (List Int)) : Prop where
  one : DAt w b p1 cs1 d1
  box : VB w q1 p1 v1.f v1.g v1.n v1.s
  hq : b ≤ q1
  nq : ¬ Ft p1 cs1 q1
  two : RVs w b p2 q2 cs2 P d2 v2 s rs
  ap : ∀ g, Ft p1 cs1 g ∨ g = q1 → ¬ Ft p2 cs2 g ∧ g ≠ q2 ∧ ¬ P g
  lt : ∀ g, P g → g < w.heap.size
section
variable {w w' : World} {b p1 p2 q1 q2 : Nat} {cs1 cs2 cs1' cs2' : Nat → Sl} {P : Nat → Prop} {d1 d2 d1' d2' : D} {v1 v2 v1' v2' : Vn} {s s' : List Int} {rs rs' : List (List Int)}
theorem RVs.lt (h : RVs w b p2 q2 cs2 P d2 v2 s rs) : RVs w b p2 q2 cs2 (fun i => P i ∧ i < w.heap.size) d2 v2 s rs := by
  obtain ⟨A, n, c, B, m, e, cells, k1, k2, k3⟩ := h.ex
  exact ⟨h.at_, ⟨A, n, c, B, m, e, cells, k1, k2.mono fun j _ hj hp => ⟨hp, hj⟩, k3.mono fun j _ hj hp => ⟨hp, hj⟩⟩, h.hq, h.nq, fun i hi => h.hP i hi.1⟩
/-- a call of the program's vault -/
theorem Vk.prog (h : Vk w b p1 p2 q1 q2 cs1 cs2 P d1 v1 d2 v2 s rs) (h1 : DAt w' b p1 cs1' d1') (hs : VStep w b p1 cs1 q1 w' cs1') (hv : VB w' q1 p1 v1'.f v1'.g v1'.n v1'.s) (hn : ¬ Ft p1 cs1' q1) : Vk w' b p1 p2 q1 q2 cs1' cs2 P d1' v1' d2 v2 s rs := by
  have hq2 := h.two.qlt
  refine ⟨h1, hv, h.hq, hn, h.two.other hs.keep (fun i hi => ⟨fun hf => (h.ap i (.inl hf)).1 hi, fun e => (h.ap i (.inr e)).1 hi⟩) ⟨fun hf => (h.ap _ (.inl hf)).2.1 rfl, fun e => (h.ap _ (.inr e)).2.1 rfl⟩ (fun i hi => ⟨fun hf => (h.ap i (.inl hf)).2.2 hi, fun e => (h.ap i (.inr e)).2.2 hi⟩), fun g hg => ?_, fun g hg => Nat.lt_of_lt_of_le (h.lt g hg) hs.keep.1⟩
  rcases hg with hg | rfl
  · rcases hs.foot g hg with h2 | h2
    · exact h.ap g (.inl h2)
    · exact ⟨fun hf => by have := (h.two.at_.ft hf).2; omega, fun e => by omega, fun hp => by have := h.lt g hp; omega⟩
  · exact h.ap _ (.inr rfl)
/-- a call of the document's vault -/
theorem Vk.doc (h : Vk w b p1 p2 q1 q2 cs1 cs2 P d1 v1 d2 v2 s rs) (hp : RVPost w b p2 q2 cs2 P d2' v2' s' rs' w') : ∃ cs2' P', Vk w' b p1 p2 q1 q2 cs1 cs2' P' d1 v1 d2' v2' s' rs' ∧ Below b w w' := by
  obtain ⟨cs2', P', h2, ht⟩ := hp
  have hql := h.box.lt
  have hq2 := h.two.qlt
  refine ⟨cs2', _, ⟨h.one.kept ht.keep fun g hg => h.ap g (.inl hg), h.box.kept ht.keep (h.ap q1 (.inr rfl)), h.hq, h.nq, RVs.lt h2, fun g hg => ?_, fun g hg => hg.2⟩, ht.bel⟩
  have hl : g < w.heap.size := by
    rcases hg with hg | rfl
    · exact (h.one.ft hg).2
    · exact hql
  have ha := h.ap g hg
  refine ⟨fun hf => ?_, ha.2.1, fun hp => ?_⟩
  · rcases ht.foot g hf with h3 | h3
    · exact ha.1 h3
    · omega
  · rcases ht.set g hp.1 with h3 | h3
    · exact ha.2.2 h3
    · omega
/-- new blocks alone -/
theorem Vk.below (h : Vk w b p1 p2 q1 q2 cs1 cs2 P d1 v1 d2 v2 s rs) (hb : Below w.heap.size w w') : Vk w' b p1 p2 q1 q2 cs1 cs2 P d1 v1 d2 v2 s rs :=
  ⟨h.one.below hb, h.box.below hb, h.hq, h.nq, h.two.below hb, h.ap, fun g hg => Nat.lt_of_lt_of_le (h.lt g hg) hb.size⟩
theorem Vk.dk (h : Vk w b p1 p2 q1 q2 cs1 cs2 P d1 v1 d2 v2 s rs) : Dk w b p1 p2 cs1 cs2 d1 d2 := ⟨h.one, h.two.at_, fun g hg => (h.ap g (.inl hg)).1⟩
theorem Dk.below (h : Dk w b p1 p2 cs1 cs2 d1 d2) (hb : Below w.heap.size w w') : Dk w' b p1 p2 cs1 cs2 d1 d2 := ⟨h.one.below hb, h.two.below hb, h.dis⟩
/-- a step of the program's disk -/
theorem Dk.prog (h : Dk w b p1 p2 cs1 cs2 d1 d2) (h1 : DAt w' b p1 cs1' d1') (hs : DStep w b p1 cs1 w' cs1') : Dk w' b p1 p2 cs1' cs2 d1' d2 :=
  ⟨h1, h.two.kept hs.keep fun g hg hf => h.dis g hf hg, fun g hg hf => by
    rcases hs.foot g hg with h2 | h2
    · exact h.dis g h2 hf
    · have := (h.two.ft hf).2; omega⟩
theorem Dk.doc (h : Dk w b p1 p2 cs1 cs2 d1 d2) (h1 : RAt w' b p2 cs2' d2') (hs : DStep w b p2 cs2 w' cs2') : Dk w' b p1 p2 cs1 cs2' d1 d2' :=
  ⟨h.one.kept hs.keep fun g hg => h.dis g hg, h1, fun g hg hf => by
    rcases hs.foot g hf with h2 | h2
    · exact h.dis g hg h2
    · have := (h.one.ft hg).2; omega⟩
/-- a step of one disk beside two vaults -/
theorem Vk.prog0 (h : Vk w b p1 p2 q1 q2 cs1 cs2 P d1 v1 d2 v2 s rs) (h1 : DAt w' b p1 cs1' d1') (hs : DStep w b p1 cs1 w' cs1') : Vk w' b p1 p2 q1 q2 cs1' cs2 P d1' v1 d2 v2 s rs :=
  h.prog h1 (VStep.of hs) (h.box.kept hs.keep h.nq) fun hf => by
    rcases hs.foot _ hf with h2 | h2
    · exact h.nq h2
    · have := h.box.lt; omega
theorem Vk.doc0 (h : Vk w b p1 p2 q1 q2 cs1 cs2 P d1 v1 d2 v2 s rs) (h1 : RAt w' b p2 cs2' d2') (hs : DStep w b p2 cs2 w' cs2') : ∃ cs2' P', Vk w' b p1 p2 q1 q2 cs1 cs2' P' d1 v1 d2' v2 s rs ∧ Below b w w' :=
  h.doc ⟨_, _, h.two.disk hs h1, RVt.disk hs⟩
/-- two vaults, opened one behind the other -/
theorem Vk.made {w1 w2 : World} {e1 e2 : D} {d d' : D} (h : Dk w b p1 p2 cs1 cs2 d d') (h1 : DAt w1 b p1 cs1' e1) (s1 : DStep w b p1 cs1 w1 cs1') (hv : VB w1 q1 p1 v1.f v1.g v1.n v1.s) (hq : w.heap.size ≤ q1) (hn : ¬ Ft p1 cs1' q1)
    (h2 : RVs w2 b p2 q2 cs2' P e2 v2 s rs) (s2 : DStep w1 b p2 cs2 w2 cs2') (hq2 : w1.heap.size ≤ q2) (hP : ∀ i, P i → w1.heap.size ≤ i) : Vk w2 b p1 p2 q1 q2 cs1' cs2' (fun i => P i ∧ i < w2.heap.size) e1 v1 e2 v2 s rs := by
  have D1 := h.prog h1 s1
  have D2 := D1.doc h2.at_ s2
  have hql := hv.lt
  have hb := h.one.base_le
  have hnf : ¬ Ft p2 cs2 q1 := fun hf => by have := (h.two.ft hf).2; omega
  refine ⟨D2.one, hv.kept s2.keep hnf, by omega, hn, RVs.lt h2, fun g hg => ?_, fun g hg => hg.2⟩
  rcases hg with hg | rfl
  · have hl := (h1.ft hg).2
    exact ⟨D2.dis g hg, fun e => by omega, fun hp => by have := hP g hp.1; omega⟩
  · refine ⟨fun hf => ?_, fun e => by omega, fun hp => by have := hP _ hp.1; omega⟩
    rcases s2.foot _ hf with h3 | h3
    · exact hnf h3
    · omega
end
end Go.Proofs.YtfinaikgikifcaaDoor.vaultv
/- Two disks and vaults side by side, beside a box of another's: what steps of both leave. -/
namespace Go.Proofs.YtfinaikgikifcaaDoor.vaultv
open Go.RowKit Go.Shelf Go.Proofs.YtfinaikgikifcaaDoorW.PrintWords Go.Proofs.YtfinaikgikifcaaDoor.base Go.Proofs.YtfinaikgikifcaaDoor.mem Go.Proofs.YtfinaikgikifcaaDoor.keep Go.Proofs.YtfinaikgikifcaaDoor.samew Go.Proofs.YtfinaikgikifcaaDoor.framep Go.Proofs.YtfinaikgikifcaaDoor.frameit Go.Proofs.YtfinaikgikifcaaDoor.framea Go.Proofs.YtfinaikgikifcaaDoor.framer Go.Proofs.YtfinaikgikifcaaDoor.framen Go.Proofs.YtfinaikgikifcaaDoor.diskp Go.Proofs.YtfinaikgikifcaaDoor.diskr Go.Proofs.YtfinaikgikifcaaDoor.diskw Go.Proofs.YtfinaikgikifcaaDoor.refr Go.Proofs.YtfinaikgikifcaaDoor.refw Go.Proofs.YtfinaikgikifcaaDoor.vaultp Go.Proofs.YtfinaikgikifcaaDoor.vaultw Go.Proofs.YtfinaikgikifcaaDoor.vaulta Go.Proofs.YtfinaikgikifcaaDoor.vref Go.Proofs.YtfinaikgikifcaaDoor.vaulth Go.Proofs.YtfinaikgikifcaaDoor.vaulto

/-- the two sides with disks of their own, vaults or none -/
def TwoH (b p1 p2 S : Nat) (x y : Value) (W : World) (d1 d2 : D) : Prop :=
  ∃ (cs1 cs2 : Nat → Sl), ((x = .pointer none ∧ y = .pointer none ∧ Dk W b p1 p2 cs1 cs2 d1 d2) ∨
      ∃ (q1 q2 : Nat) (P : Nat → Prop) (v : Vn) (s : List Int) (rs : List (List Int)), x = .pointer (some ⟨q1, 0, none⟩) ∧ y = .pointer (some ⟨q2, 0, none⟩) ∧ Vk W b p1 p2 q1 q2 cs1 cs2 P d1 v d2 v s rs ∧ Nv v rs S)
/-- two disks alike, vaults or none -/
def TwoV (b p1 p2 S : Nat) (x y : Value) (W : World) (d : D) : Prop := TwoH b p1 p2 S x y W d d
theorem TwoH.prog {b p1 p2 S : Nat} {x y : Value} {W : World} {d1 d2 : D} (h : TwoH b p1 p2 S x y W d1 d2) : ∃ cs1, DAt W b p1 cs1 d1 ∧ ∀ w' d1', DPost W b p1 cs1 d1' w' → TwoH b p1 p2 S x y w' d1' d2 ∧ Below b W w' := by
  obtain ⟨cs1, cs2, ⟨e1, e2, h⟩ | ⟨q1, q2, P, v, s, rs, e1, e2, h, hn⟩⟩ := h
  · exact ⟨cs1, h.one, fun w' d1' hp => by
      obtain ⟨cs', k1, k2⟩ := hp
      exact ⟨⟨cs', cs2, .inl ⟨e1, e2, h.prog k1 k2⟩⟩, k2.bel⟩⟩
  · exact ⟨cs1, h.one, fun w' d1' hp => by
      obtain ⟨cs', k1, k2⟩ := hp
      exact ⟨⟨cs', cs2, .inr ⟨q1, q2, P, v, s, rs, e1, e2, h.prog0 k1 k2, hn⟩⟩, k2.bel⟩⟩
theorem TwoH.doc {b p1 p2 S : Nat} {x y : Value} {W : World} {d1 d2 : D} (h : TwoH b p1 p2 S x y W d1 d2) : ∃ cs2, RAt W b p2 cs2 d2 ∧ ∀ w' d2', RPost W b p2 cs2 d2' w' → TwoH b p1 p2 S x y w' d1 d2' ∧ Below b W w' := by
  obtain ⟨cs1, cs2, ⟨e1, e2, h⟩ | ⟨q1, q2, P, v, s, rs, e1, e2, h, hn⟩⟩ := h
  · exact ⟨cs2, h.two, fun w' d2' hp => by
      obtain ⟨cs', k1, k2⟩ := hp
      exact ⟨⟨cs1, cs', .inl ⟨e1, e2, h.doc k1 k2⟩⟩, k2.bel⟩⟩
  · exact ⟨cs2, h.two.at_, fun w' d2' hp => by
      obtain ⟨cs', k1, k2⟩ := hp
      obtain ⟨cs'', P', h', hb⟩ := h.doc0 k1 k2
      exact ⟨⟨cs1, cs'', .inr ⟨q1, q2, P', v, s, rs, e1, e2, h', hn⟩⟩, hb⟩⟩
theorem TwoV.below {b p1 p2 S : Nat} {x y : Value} {W W1 : World} {d : D} (h : TwoV b p1 p2 S x y W d) (hb : Below W.heap.size W W1) : TwoV b p1 p2 S x y W1 d := by
  obtain ⟨cs1, cs2, ⟨e1, e2, h⟩ | ⟨q1, q2, P, v, s, rs, e1, e2, h, hn⟩⟩ := h
  · exact ⟨cs1, cs2, .inl ⟨e1, e2, h.below hb⟩⟩
  · exact ⟨cs1, cs2, .inr ⟨q1, q2, P, v, s, rs, e1, e2, h.below hb, hn⟩⟩
theorem Nv.more {v : Vn} {rs : List (List Int)} {S S' : Nat} (h : Nv v rs S) (hS : S ≤ S') : Nv v rs S' := ⟨h.n, h.f, h.g, Nat.le_trans h.r hS⟩
theorem TwoV.more {b p1 p2 S S' : Nat} {x y : Value} {W : World} {d : D} (h : TwoV b p1 p2 S x y W d) (hS : S ≤ S') : TwoV b p1 p2 S' x y W d := by
  obtain ⟨cs1, cs2, ⟨e1, e2, h⟩ | ⟨q1, q2, P, v, s, rs, e1, e2, h, hn⟩⟩ := h
  · exact ⟨cs1, cs2, .inl ⟨e1, e2, h⟩⟩
  · exact ⟨cs1, cs2, .inr ⟨q1, q2, P, v, s, rs, e1, e2, h, Nv.more hn hS⟩⟩
/-- the law's held of them -/
theorem TwoV.held {b p1 p2 S S' N : Nat} {x y : Value} {W : World} {d : D} (h : TwoV b p1 p2 S x y W d) (hk : Ok d S' N) (hS : S' ≤ 70368744177664) (hN : N ≤ 4611686018427387904) : Calls Tryd.prog 30 #[.pointer (some ⟨p1, 0, none⟩), .pointer (some ⟨p2, 0, none⟩), x, y] W (RetT W) := by
  obtain ⟨cs1, cs2, ⟨rfl, rfl, h⟩ | ⟨q1, q2, P, v, s, rs, rfl, rfl, h, hn⟩⟩ := h
  · exact held_nil h.one h.two hk hS hN
  · have ht := h.two
    obtain ⟨A, n, c, B, m, e, cells, hb, _, hr⟩ := ht.ex
    have hb1 := h.box
    rw [hn.n, ← hr.len] at hb1
    exact held_some h.one ht.at_ hk hS hN hb1 hb

/-- a store into the box of the document's disk -/
theorem step_put {b p : Nat} (hq : b ≤ p) (cs : Nat → Sl) (w : World) (i : Nat) (v : Value) : DStep w b p cs (w.setCell ⟨p, i, none⟩ v) cs :=
  ⟨(Kp.refl w).set (fun h => h (.inl rfl)) i v, fun _ h => .inl h, (Below.refl b w).setCell (p := ⟨p, i, none⟩) hq v⟩
/-- what lies below a world's end is read as long as its blocks stay -/
theorem RdB.olds {w w' : World} {A : Option Addr} {n : Nat} {xs : List Int} (h : RdB w A n xs) (hb : ∀ i, i < w.heap.size → w'.heap[i]? = w.heap[i]?) : RdB w' A n xs := by
  refine ⟨⟨h.1.1, h.1.2.1, fun hn => ?_⟩, h.2⟩
  obtain ⟨ad, ha, hc⟩ := h.1.2.2 hn
  refine ⟨ad, ha, fun j hj => ?_⟩
  have hcj := hc j hj
  rw [← hcj]
  refine World.cell?_of_block (hb _ ?_)
  unfold World.cell? at hcj
  cases hg : w.heap[(ad.add j).block]? with
  | none => rw [hg] at hcj; cases hcj
  | some o => exact (Array.getElem?_eq_some_iff.1 hg).1
/-- the document's blocks are of the call's own -/
theorem RVs.own {w : World} {b p2 q2 : Nat} {cs2 : Nat → Sl} {P : Nat → Prop} {d2 : D} {v2 : Vn} {s : List Int} {rs : List (List Int)} (h : RVs w b p2 q2 cs2 P d2 v2 s rs) : RVs w b p2 q2 cs2 (fun i => P i ∧ b ≤ i) d2 v2 s rs := by
  obtain ⟨A, n, c, B, m, e, cells, k1, k2, k3⟩ := h.ex
  exact ⟨h.at_, ⟨A, n, c, B, m, e, cells, k1, k2.mono fun j hb _ hp => ⟨hp, hb⟩, k3.mono fun j hb _ hp => ⟨hp, hb⟩⟩, h.hq, h.nq, fun i hi => h.hP i hi.1⟩
theorem Vk.own {w : World} {b p1 p2 q1 q2 : Nat} {cs1 cs2 : Nat → Sl} {P : Nat → Prop} {d1 d2 : D} {v1 v2 : Vn} {s : List Int} {rs : List (List Int)} (h : Vk w b p1 p2 q1 q2 cs1 cs2 P d1 v1 d2 v2 s rs) : Vk w b p1 p2 q1 q2 cs1 cs2 (fun i => P i ∧ b ≤ i) d1 v1 d2 v2 s rs :=
  ⟨h.one, h.box, h.hq, h.nq, RVs.own h.two, fun g hg => ⟨(h.ap g hg).1, (h.ap g hg).2.1, fun hp => (h.ap g hg).2.2 hp.1⟩, fun g hg => h.lt g hg.1⟩
/-- a call of the document's vault, with what it leaves -/
theorem Vk.docT {w w' : World} {b p1 p2 q1 q2 : Nat} {cs1 cs2 cs2' : Nat → Sl} {P P' : Nat → Prop} {d1 d2 d2' : D} {v1 v2 v2' : Vn} {s s' : List Int} {rs rs' : List (List Int)} (h : Vk w b p1 p2 q1 q2 cs1 cs2 P d1 v1 d2 v2 s rs) (h2 : RVs w' b p2 q2 cs2' P' d2' v2' s' rs') (ht : RVt w b p2 q2 cs2 P w' cs2' P') : Vk w' b p1 p2 q1 q2 cs1 cs2' (fun i => P' i ∧ i < w'.heap.size) d1 v1 d2' v2' s' rs' := by
  have hql := h.box.lt
  refine ⟨h.one.kept ht.keep fun g hg => h.ap g (.inl hg), h.box.kept ht.keep (h.ap q1 (.inr rfl)), h.hq, h.nq, RVs.lt h2, fun g hg => ?_, fun g hg => hg.2⟩
  have hl : g < w.heap.size := by
    rcases hg with hg | rfl
    · exact (h.one.ft hg).2
    · exact hql
  have ha := h.ap g hg
  refine ⟨fun hf => ?_, ha.2.1, fun hp => ?_⟩
  · rcases ht.foot g hf with h3 | h3
    · exact ha.1 h3
    · omega
  · rcases ht.set g hp.1 with h3 | h3
    · exact ha.2.2 h3
    · omega
/-- the two sides, and a box i of neither -/
def TwoB (b p1 p2 S i : Nat) (x y : Value) (W : World) (d1 d2 : D) : Prop :=
  ∃ (cs1 cs2 : Nat → Sl), (i < W.heap.size ∧ ¬ Ft p1 cs1 i ∧ ¬ Ft p2 cs2 i) ∧ ((x = .pointer none ∧ y = .pointer none ∧ Dk W b p1 p2 cs1 cs2 d1 d2) ∨
      ∃ (q1 q2 : Nat) (P : Nat → Prop) (v : Vn) (s : List Int) (rs : List (List Int)), x = .pointer (some ⟨q1, 0, none⟩) ∧ y = .pointer (some ⟨q2, 0, none⟩) ∧ Vk W b p1 p2 q1 q2 cs1 cs2 P d1 v d2 v s rs ∧ Nv v rs S ∧ (i ≠ q1 ∧ i ≠ q2 ∧ ¬ P i))
theorem TwoV.box {b p1 p2 S : Nat} {x y : Value} {W W1 : World} {d : D} (h : TwoV b p1 p2 S x y W d) (hb : Below W.heap.size W W1) (hs : W.heap.size < W1.heap.size) : TwoB b p1 p2 S W.heap.size x y W1 d d := by
  obtain ⟨cs1, cs2, ⟨e1, e2, h⟩ | ⟨q1, q2, P, v, s, rs, e1, e2, h, hn⟩⟩ := h
  · exact ⟨cs1, cs2, ⟨hs, fun hf => Nat.lt_irrefl _ (h.one.ft hf).2, fun hf => Nat.lt_irrefl _ (h.two.ft hf).2⟩, .inl ⟨e1, e2, h.below hb⟩⟩
  · have h1 := h.box.lt
    have h2 := h.two.qlt
    exact ⟨cs1, cs2, ⟨hs, fun hf => Nat.lt_irrefl _ (h.one.ft hf).2, fun hf => Nat.lt_irrefl _ (h.two.at_.ft hf).2⟩, .inr ⟨q1, q2, P, v, s, rs, e1, e2, h.below hb, hn, by omega, by omega, fun hp => Nat.lt_irrefl _ (h.lt _ hp)⟩⟩
section
variable {b p1 p2 S S' N i : Nat} {x y : Value} {W W1 : World} {d d1 d2 : D}
theorem TwoB.off (h : TwoB b p1 p2 S i x y W d d) : TwoV b p1 p2 S x y W d := by
  obtain ⟨cs1, cs2, _, ⟨e1, e2, h⟩ | ⟨q1, q2, P, v, s, rs, e1, e2, h, hn, _⟩⟩ := h
  · exact ⟨cs1, cs2, .inl ⟨e1, e2, h⟩⟩
  · exact ⟨cs1, cs2, .inr ⟨q1, q2, P, v, s, rs, e1, e2, h, hn⟩⟩
theorem TwoB.below (h : TwoB b p1 p2 S i x y W d1 d2) (hb : Below W.heap.size W W1) : TwoB b p1 p2 S i x y W1 d1 d2 := by
  have hs := hb.size
  obtain ⟨cs1, cs2, ⟨h1, h2, h3⟩, ⟨e1, e2, h⟩ | ⟨q1, q2, P, v, s, rs, e1, e2, h, hn⟩⟩ := h
  · exact ⟨cs1, cs2, ⟨by omega, h2, h3⟩, .inl ⟨e1, e2, h.below hb⟩⟩
  · exact ⟨cs1, cs2, ⟨by omega, h2, h3⟩, .inr ⟨q1, q2, P, v, s, rs, e1, e2, h.below hb, hn⟩⟩
theorem foot_not {w w' : World} {p : Nat} {cs cs' : Nat → Sl} (hs : DStep w b p cs w' cs') (h1 : i < w.heap.size) (h2 : ¬ Ft p cs i) : ¬ Ft p cs' i := fun hf => by
  rcases hs.foot i hf with h3 | h3
  · exact h2 h3
  · omega
/-- a step of the program's disk -/
theorem TwoB.prog (h : TwoB b p1 p2 S i x y W d1 d2) : ∃ cs1, DAt W b p1 cs1 d1 ∧ ∀ w' d1', DPost W b p1 cs1 d1' w' → TwoB b p1 p2 S i x y w' d1' d2 ∧ Below b W w' ∧ w'.heap[i]? = W.heap[i]? := by
  obtain ⟨cs1, cs2, ⟨h1, h2, h3⟩, ⟨e1, e2, h⟩ | ⟨q1, q2, P, v, s, rs, e1, e2, h, hn, hi⟩⟩ := h
  · exact ⟨cs1, h.one, fun w' d1' hp => by
      obtain ⟨cs', k1, k2⟩ := hp
      exact ⟨⟨cs', cs2, ⟨Nat.lt_of_lt_of_le h1 k2.keep.1, foot_not k2 h1 h2, h3⟩, .inl ⟨e1, e2, h.prog k1 k2⟩⟩, k2.bel, k2.keep.2 i h2 h1⟩⟩
  · exact ⟨cs1, h.one, fun w' d1' hp => by
      obtain ⟨cs', k1, k2⟩ := hp
      exact ⟨⟨cs', cs2, ⟨Nat.lt_of_lt_of_le h1 k2.keep.1, foot_not k2 h1 h2, h3⟩, .inr ⟨q1, q2, P, v, s, rs, e1, e2, h.prog0 k1 k2, hn, hi⟩⟩, k2.bel, k2.keep.2 i h2 h1⟩⟩
/-- a step of the document's disk -/
theorem TwoB.doc (h : TwoB b p1 p2 S i x y W d1 d2) : ∃ cs2, RAt W b p2 cs2 d2 ∧ ∀ w' d2', RPost W b p2 cs2 d2' w' → TwoB b p1 p2 S i x y w' d1 d2' ∧ Below b W w' ∧ w'.heap[i]? = W.heap[i]? := by
  obtain ⟨cs1, cs2, ⟨h1, h2, h3⟩, ⟨e1, e2, h⟩ | ⟨q1, q2, P, v, s, rs, e1, e2, h, hn, hi⟩⟩ := h
  · exact ⟨cs2, h.two, fun w' d2' hp => by
      obtain ⟨cs', k1, k2⟩ := hp
      exact ⟨⟨cs1, cs', ⟨Nat.lt_of_lt_of_le h1 k2.keep.1, h2, foot_not k2 h1 h3⟩, .inl ⟨e1, e2, h.doc k1 k2⟩⟩, k2.bel, k2.keep.2 i h3 h1⟩⟩
  · exact ⟨cs2, h.two.at_, fun w' d2' hp => by
      obtain ⟨cs', k1, k2⟩ := hp
      have h' := h.docT (h.two.disk k2 k1) (RVt.disk k2)
      exact ⟨⟨cs1, cs', ⟨Nat.lt_of_lt_of_le h1 k2.keep.1, h2, foot_not k2 h1 h3⟩, .inr ⟨q1, q2, _, v, s, rs, e1, e2, h', hn, hi.1, hi.2.1, fun hp => hi.2.2 hp.1.1⟩⟩, k2.bel, k2.keep.2 i h3 h1⟩⟩
/-- behind the program's call: the box stays, and the document's call answers the same -/
def Both (b p1 p2 S i : Nat) (x y : Value) (f : Nat) (args : Array Value) (r : Int) (d' : D) (W : World) (e : Ending) (w' : World) : Prop :=
  e = .returned (.int .i64 r) ∧ w'.heap[i]? = W.heap[i]? ∧ Below b W w' ∧ Calls Tryd.prog f args w' fun e2 w2 => e2 = .returned (.int .i64 r) ∧ w2.heap[i]? = w'.heap[i]? ∧ TwoV b p1 p2 S x y w2 d' ∧ Below b w' w2
/-- both vaults append -/
theorem TwoB.app (h : TwoB b p1 p2 S i x y W d d) (hk : Ok d S N) (A : Option Addr) (n c : Nat) (ys : List Int) {w : World} (hr : RdB w A n ys) (hw : Below w.heap.size w W) (hb : w.heap.size ≤ b) (hc : n ≤ c) (hS : S + 1048584 ≤ 4294967296) (hN : N + 2 ≤ 4611686018427387904) (ht : crcw.Table W) :
    (x = .pointer none ∧ y = .pointer none) ∨ ∃ (q1 q2 : Nat) (r : Int) (d' : D), x = .pointer (some ⟨q1, 0, none⟩) ∧ y = .pointer (some ⟨q2, 0, none⟩) ∧ Ok d' (S + 1048584) (N + 2) ∧
      Calls Tryd.prog 18 #[x, .slice A n c] W (Both b p1 p2 (S + 1048584) i x y 24 #[y, .slice A n c] r d' W) := by
  obtain ⟨cs1, cs2, ⟨h1, h2, h3⟩, ⟨e1, e2, h⟩ | ⟨q1, q2, P, v, s, rs, rfl, rfl, h, hn, hi⟩⟩ := h
  · exact .inl ⟨e1, e2⟩
  refine .inr ⟨q1, q2, (vappR d v ys).2.2, (vappR d v ys).1, rfl, rfl, Ok.vapp hk v ys, ?_⟩
  have hn1 := hn.n
  have hn2 := hn.r
  refine (append_any h.one hk h.box h.hq h.nq (by omega) A n c ys (hr.below hw) hc (by omega) hN ht).mono ?_
  rintro e w1 ⟨rfl, cs', k1, k2, k3, k4⟩
  have hP := h.prog k1 k2 k3 k4
  refine ⟨rfl, k2.keep.2 i ⟨h2, hi.1⟩ h1, k2.bel, ?_⟩
  refine (rvapp_any hP.two hk (by omega) A n c ys (fun w' ct st => hr.below ((hw.trans (k2.bel.mono hb)).trans (st.bel.mono hb))) hc (by omega) hN).mono ?_
  rintro e w2 ⟨rfl, cs2', P', j1, j2⟩
  exact ⟨rfl, j2.keep.2 i ⟨h3, hi.2.1, hi.2.2⟩ (Nat.lt_of_lt_of_le h1 k2.keep.1), ⟨cs', cs2', .inr ⟨q1, q2, _, _, _, _, rfl, rfl, hP.docT j1 j2, hn.app ys⟩⟩, j2.bel⟩
/-- both vaults lay a checkpoint down -/
theorem TwoB.ck (h : TwoB b p1 p2 S i x y W d d) (hk : Ok d S N) (A : Option Addr) (n c : Nat) (ys : List Int) {w : World} (hr : RdB w A n ys) (hw : Below w.heap.size w W) (hb : w.heap.size ≤ b) (hn8 : n + 8 ≤ 140737488355328) (hS : S + 1048584 ≤ 4294967296) (hN : N + 3 ≤ 4611686018427387904) (ht : crcw.Table W) :
    (x = .pointer none ∧ y = .pointer none) ∨ ∃ (q1 q2 : Nat) (r : Int) (d' : D), x = .pointer (some ⟨q1, 0, none⟩) ∧ y = .pointer (some ⟨q2, 0, none⟩) ∧ Ok d' (S + 1048584) (N + 3) ∧
      Calls Tryd.prog 19 #[x, .slice A n c] W (Both b p1 p2 (S + 1048584) i x y 25 #[y, .slice A n c] r d' W) := by
  obtain ⟨cs1, cs2, ⟨h1, h2, h3⟩, ⟨e1, e2, h⟩ | ⟨q1, q2, P, v, s, rs, rfl, rfl, h0, hn, hi⟩⟩ := h
  · exact .inl ⟨e1, e2⟩
  refine .inr ⟨q1, q2, (vckR d v ys).2.2, (vckR d v ys).1, rfl, rfl, Ok.vck hk v ys, ?_⟩
  have h := h0.own
  have hn1 := hn.n
  have hn2 := hn.r
  refine (checkpoint_any h.one hk h.box h.hq h.nq hn.f hn.g A n c ys (hr.below hw) hn8 (by omega) hN ht).mono ?_
  rintro e w1 ⟨rfl, cs', k1, k2, k3, k4⟩
  have hP := h.prog k1 k2 k3 k4
  refine ⟨rfl, k2.keep.2 i ⟨h2, hi.1⟩ h1, k2.bel, ?_⟩
  have hw1 := hw.trans (k2.bel.mono hb)
  have hq2 := hP.two.hq
  refine (rvck_any hP.two hk hn.f hn.g A n c ys (fun w' kp => RdB.olds hr fun j hj => ?_) hn8 (by omega) hN).mono ?_
  · have hjs : j < w1.heap.size := by have := hw1.size; omega
    rw [kp.2 j ⟨fun hf => by have := (hP.two.at_.ft hf).1; omega, by omega, fun hp => by have := hp.2; omega⟩ hjs]
    exact hw1.block j hj
  rintro e w2 ⟨rfl, cs2', P', j1, j2⟩
  exact ⟨rfl, j2.keep.2 i ⟨h3, hi.2.1, fun hp => hi.2.2 hp.1⟩ (Nat.lt_of_lt_of_le h1 k2.keep.1), ⟨cs', cs2', .inr ⟨q1, q2, _, _, _, _, rfl, rfl, hP.docT j1 j2, hn.ck ys⟩⟩, j2.bel⟩
theorem Nv.no (hS : 0 ≤ S) : Nv ⟨noV.f, noV.g, (noV.r.length : Nat), 0⟩ noV.r S := ⟨rfl, .inl rfl, by simp [noV], by simp [noV]⟩
theorem openR_nv (hk : Ok d S N) (s : List Int) : Nv ⟨(openR d s).v.f, (openR d s).v.g, ((openR d s).v.r.length : Nat), 0⟩ (openR d s).v.r S := by
  have hno : Nv ⟨noV.f, noV.g, (noV.r.length : Nat), 0⟩ noV.r S := Nv.no (Nat.zero_le _)
  unfold openR
  split
  · exact hno
  · split
    · exact hno
    · split
      · unfold newR
        split
        · exact hno
        · split
          · exact hno
          · exact ⟨rfl, .inl rfl, by simp, by simp⟩
      · unfold oldR
        split
        · exact hno
        · have hp : pick d = 0 ∨ pick d = 1 := by unfold pick; split; exact .inr rfl; exact .inl rfl
          refine ⟨rfl, ?_, lookP_range, ?_⟩
          · rcases hp with e | e
            · exact .inl (by show ((pick d : Nat) : Int) = 0; rw [e]; rfl)
            · exact .inr (by show ((pick d : Nat) : Int) = 1; rw [e]; rfl)
          · refine Nat.le_trans (recs_le _) ?_
            have hs := hk.s
            rcases hp with e | e
            · rw [e]
              have := hs.1
              unfold tot at this
              simpa [fileB] using this
            · rw [e]
              have := hs.2
              unfold tot at this
              simpa [fileB] using this
theorem fileB_le (hk : Ok d S N) : (P (fileB d 0)).length ≤ S ∧ (P (fileB d 1)).length ≤ S := by
  have hs := hk.s
  have h0 := count_le (fileB d 0)
  have h1 := count_le (fileB d 1)
  unfold tot at hs
  have e0 : (fileB d 0).length ≤ S := by simpa [fileB] using hs.1
  have e1 : (fileB d 1).length ≤ S := by simpa [fileB] using hs.2
  omega
/-- behind the program's opening: the box stays, and the document's opening answers the same -/
def OpenB (b p1 p2 S i : Nat) (A : Option Addr) (n c : Nat) (r : Int) (d' : D) (W : World) (e : Ending) (w' : World) : Prop :=
  (w'.heap[i]? = W.heap[i]? ∧ Below b W w') ∧
  ((r ≠ 0 ∧ e = .returned (.tuple #[.pointer none, .slice none 0 0, .slice none 0 0, .int .i64 r]) ∧
      Calls Tryd.prog 29 #[.pointer (some ⟨p2, 0, none⟩), .slice A n c] w' fun e2 w2 => e2 = .returned (.tuple #[.pointer none, .int .i64 r]) ∧ TwoV b p1 p2 S (.pointer none) (.pointer none) w2 d' ∧ Below b w' w2) ∨
   (r = 0 ∧ ∃ (q1 : Nat) (A1 : Option Addr) (n1 c1 : Nat) (B1 : Option Addr) (m1 k1 : Nat) (s : List Int) (rs : List (List Int)), e = .returned (.tuple #[.pointer (some ⟨q1, 0, none⟩), .slice A1 n1 c1, .slice B1 m1 k1, .int .i64 0]) ∧
      Calls Tryd.prog 29 #[.pointer (some ⟨p2, 0, none⟩), .slice A n c] w' fun e2 w2 => ∃ (q2 : Nat) (A2 : Option Addr) (n2 c2 : Nat) (B2 : Option Addr) (m2 k2 : Nat), e2 = .returned (.tuple #[.pointer (some ⟨q2, 0, none⟩), .int .i64 0]) ∧ TwoV b p1 p2 S (.pointer (some ⟨q1, 0, none⟩)) (.pointer (some ⟨q2, 0, none⟩)) w2 d' ∧ Below b w' w2 ∧
        (w2.cell? ⟨q2, 3, none⟩ = some (.slice A2 n2 c2) ∧ w2.cell? ⟨q2, 4, none⟩ = some (.slice B2 m2 k2)) ∧ (RdB w2 A1 n1 s ∧ RdBB w2 B1 m1 rs) ∧ RdB w2 A2 n2 s ∧ RdBB w2 B2 m2 rs))
theorem TwoB.open_ (h : TwoB b p1 p2 S i x y W d d) (hk : Ok d S N) (A : Option Addr) (n c : Nat) (s : List Int) {w : World} (hr : RdB w A n s) (hw : Below w.heap.size w W) (hb : w.heap.size ≤ b) (hn : n + 8 ≤ 140737488355328) (hS : S + 1048584 ≤ 4294967296) (hN : N + 4 ≤ 4611686018427387904) (ht : crcw.Table W) :
    Ok (openR d s).d (S + 1048584) (N + 4) ∧ Calls Tryd.prog 11 #[.pointer (some ⟨p1, 0, none⟩), .slice A n c] W (OpenB b p1 p2 (S + 1048584) i A n c (openR d s).e (openR d s).d W) := by
  refine ⟨Ok.openR hk s, ?_⟩
  have hnv := openR_nv hk s
  have hcc := fileB_le hk
  have hD : ∃ cs1 cs2, (i < W.heap.size ∧ ¬ Ft p1 cs1 i ∧ ¬ Ft p2 cs2 i) ∧ Dk W b p1 p2 cs1 cs2 d d := by
    obtain ⟨cs1, cs2, h0, ⟨e1, e2, h⟩ | ⟨q1, q2, P, v, s, rs, e1, e2, h, hn, hi⟩⟩ := h
    · exact ⟨cs1, cs2, h0, h⟩
    · exact ⟨cs1, cs2, h0, h.dk⟩
  obtain ⟨cs1, cs2, ⟨h1, h2, h3⟩, hd⟩ := hD
  clear h
  refine (open_any hd.one hk A n c s (fun w' cs' st => hr.below (hw.trans (st.bel.mono hb))) hn (by omega) hN (by omega) (by omega) ht).mono ?_
  obtain ⟨R, hR⟩ : ∃ R, openR d s = R := ⟨_, rfl⟩
  rw [hR] at hnv ⊢
  obtain ⟨d', r, v⟩ := R
  dsimp only at hnv
  rintro e w1 (⟨hne, rfl, cs', g1, g2⟩ | ⟨he, q, A1, n1, c1, B1, m1, k1, cells, cs', rfl, g1, g2, g3, ⟨g4, g5⟩, g6, _⟩)
  · have hd' := hd.prog g1 g2
    refine ⟨⟨g2.keep.2 i h2 h1, g2.bel⟩, .inl ⟨hne, rfl, ?_⟩⟩
    refine (rvopen_any hd'.two hk A n c s (fun w' ct st => hr.below ((hw.trans (g2.bel.mono hb)).trans (st.bel.mono hb))) hn (by omega) hN).mono ?_
    rw [hR]
    rintro e w2 (⟨_, rfl, cs2', j1, j2⟩ | ⟨he, _⟩)
    · exact ⟨rfl, ⟨cs', cs2', .inl ⟨rfl, rfl, hd'.doc j1 j2⟩⟩, j2.bel⟩
    · exact absurd he hne
  · have hd' := hd.prog g1 g2
    refine ⟨⟨g2.keep.2 i h2 h1, g2.bel⟩, .inr ⟨he, q, A1, n1, c1, B1, m1, k1, v.s, v.r, rfl, ?_⟩⟩
    refine (rvopen_any hd'.two hk A n c s (fun w' ct st => hr.below ((hw.trans (g2.bel.mono hb)).trans (st.bel.mono hb))) hn (by omega) hN).mono ?_
    rw [hR]
    rintro e w2 (⟨hne, _⟩ | ⟨_, q2, cs2', P, rfl, j1, j2, j3, j4⟩)
    · exact absurd he hne
    · have hsz := g2.keep.1
      have hkp := g6.kp (j2.keep.mono fun j _ hj hf => by have := (hd.two.ft hf).2; have := hj.1; omega)
      have hm1 : m1 ≤ 9223372036854775807 := by
        have q1 := OwV.len g6.rows
        have q2 := g6.each.len
        have q3 : v.r.length ≤ S := hnv.r
        dsimp only at *
        omega
      obtain ⟨A2, n2, c2, B2, m2, k2, cells2, r1, r2, r3⟩ := j1.ex
      have r4 := r1.cells
      have hm2 : m2 ≤ 9223372036854775807 := by
        have q1 := r3.len
        have q3 : v.r.length ≤ S := hnv.r
        dsimp only at *
        omega
      refine ⟨q2, A2, n2, c2, B2, m2, k2, rfl, ⟨cs', cs2', .inr ⟨q, q2, _, _, v.s, v.r, rfl, rfl, Vk.made hd g1 g2 (v1 := ⟨v.f, v.g, (v.r.length : Nat), 0⟩) g3 g4 g5 j1 j2 j3 j4, hnv.more (by omega)⟩⟩, j2.bel, ⟨r4.2.2.2.1, r4.2.2.2.2.1⟩, ⟨hkp.rd, hkp.rds hm1⟩, r2.rd, r3.rd hm2⟩
end
end Go.Proofs.YtfinaikgikifcaaDoor.vaultv
/- The walk of the law VaultDoes (UNDER WAY: the loop's round is left). -/
namespace Go.Proofs.YtfinaikgikifcaaDoor.vaultk5
open Go.RowKit Go.Shelf Go.Proofs.YtfinaikgikifcaaDoorW.PrintWords Go.Proofs.YtfinaikgikifcaaDoor.base Go.Proofs.YtfinaikgikifcaaDoor.mem Go.Proofs.YtfinaikgikifcaaDoor.keep Go.Proofs.YtfinaikgikifcaaDoor.crcp Go.Proofs.YtfinaikgikifcaaDoor.crcw Go.Proofs.YtfinaikgikifcaaDoor.samew Go.Proofs.YtfinaikgikifcaaDoor.diskp Go.Proofs.YtfinaikgikifcaaDoor.diskr Go.Proofs.YtfinaikgikifcaaDoor.diskw Go.Proofs.YtfinaikgikifcaaDoor.refr Go.Proofs.YtfinaikgikifcaaDoor.refw Go.Proofs.YtfinaikgikifcaaDoor.vaultp Go.Proofs.YtfinaikgikifcaaDoor.vaultw Go.Proofs.YtfinaikgikifcaaDoor.vaulta Go.Proofs.YtfinaikgikifcaaDoor.vref Go.Proofs.YtfinaikgikifcaaDoor.vaulth Go.Proofs.YtfinaikgikifcaaDoor.vaultv Go.Proofs.YtfinaikgikifcaaDoor.vops Go.Proofs.YtfinaikgikifcaaDoor.vaultk

/-- the two vaults behind a round -/
def LS (w : World) (b p1 p2 k : Nat) (x y : Value) (W : World) : Prop :=
  ∃ d : D, Ok d (2097152 + k * 1048584) (4 * k) ∧ Below w.heap.size w W ∧ TwoV b p1 p2 (2097152 + k * 1048584) x y W d
theorem LS.next {w W W1 : World} {b p1 p2 k : Nat} {x y : Value} {d : D} (h : TwoV b p1 p2 (2097152 + (k + 1) * 1048584) x y W d) (hk : Ok d (2097152 + (k + 1) * 1048584) (4 * (k + 1))) (hb : Below w.heap.size w W) (h1 : Below W.heap.size W W1) : LS w b p1 p2 (k + 1) x y W1 :=
  ⟨d, hk, hb.trans (h1.mono hb.size), h.below h1⟩
set_option maxHeartbeats 8000000 in
set_option maxRecDepth 100000 in
theorem doesLaw (A1 : Option Addr) (n1 c1 : Nat) (xs1 : List Int) (A2 : Option Addr) (n2 c2 : Nat) (xs2 : List Int) (A : Option Addr) (n c : Nat) (os : List O) (w : World) (hr1 : RdB w A1 n1 xs1) (hc1 : n1 ≤ c1) (hz1 : n1 * 1 ≤ 140737488351232) (hr2 : RdB w A2 n2 xs2) (hc2 : n2 ≤ c2) (hz2 : n2 * 1 ≤ 140737488351232) (hr : RdO w A n os) (hc : n ≤ c) (ht : Table w) :
    Calls Tryd.prog 7 #[.slice A1 n1 c1, .slice A2 n2 c2, .slice A n c] w fun e w' => e = .returned (.bool true) ∧ Below w.heap.size w w' := by
  have HR := Lib.hid hr
  have HR1 := Lib.hid hr1
  have HR2 := Lib.hid hr2
  have HT := Lib.hid ht
  have HL := Lib.hid hr.len
  have hl1 := hr1.len
  have hl2 := hr2.len
  have HHV := Lib.hid (fun W (hb : Below w.heap.size w W) => heavy_any A1 n1 c1 A2 n2 c2 A n c os W (by omega) (by omega) (hr.below hb))
  have hmax := hr.max
  clear hr hr1 hr2 ht
  go_enter Tryd.func7, Tryd.ntmps7
  go_wp2_with fail
  refine (wakes_any _ HT.out).mono ?_
  rintro e w1 ⟨rfl, hb⟩
  have B1 := Lib.hid hb
  have HH := Lib.hid (HHV.out w1 hb)
  clear hb HHV
  by_cases hbig : 2097152 < n1 + n2 + sumB os ∨ 1024 < n
  · rw [decide_eq_true hbig] at HH
    clear hbig
    go_wp2_with fail
    refine HH.out.mono ?_
    rintro e w2 ⟨rfl, hb2⟩
    have B2 := Lib.hid (B1.out.trans (hb2.mono B1.out.size))
    clear hb2
    go_wp2
    go_ret
    exact ⟨rfl, B2.out⟩
  have hsz : n1 + n2 + sumB os ≤ 2097152 := by omega
  have hn : n ≤ 1024 := by omega
  rw [decide_eq_false hbig] at HH
  clear hbig
  go_wp2_with fail
  refine HH.out.mono ?_
  rintro e w2 ⟨rfl, hb2⟩
  have B2 := Lib.hid (B1.out.trans (hb2.mono B1.out.size))
  have hs2 := B2.out.size
  clear hb2
  have CL1 := Lib.hid (load_any A1 n1 c1 xs1 A2 n2 c2 xs2 w2 (HR1.out.below B2.out) (by omega) (HR2.out.below B2.out) (by omega))
  go_wp2_with fail
  refine CL1.out.mono ?_
  rintro e w3 ⟨p, cs, rfl, hd3, hb3⟩
  have B3 := Lib.hid (B2.out.trans (hb3.mono hs2))
  have HD3 := Lib.hid hd3
  have hs3 := B3.out.size
  have hs23 := hb3.size
  have CL2 := Lib.hid (rload_any A1 n1 c1 xs1 A2 n2 c2 xs2 w3 (HR1.out.below B3.out) (by omega) (HR2.out.below B3.out) (by omega))
  clear hb3 hd3
  go_wp2_with fail
  refine CL2.out.mono ?_
  rintro e w4 ⟨po, co, rfl, hd4, hb4⟩
  have B4 := Lib.hid (B3.out.trans (hb4.mono hs3))
  have HL4 : Hid (LS w w2.heap.size p po 0 (.pointer none) (.pointer none) w4) := Lib.hid ⟨_, (Ok.load xs1 xs2).more (by omega) (by omega), B4.out, cs, co, .inl ⟨rfl, rfl, HD3.out.below hb4, hd4.less hs23, fun g hg hq => by
    have h1 := (HD3.out.ft hg).2
    have h2 := (hd4.ft hq).1
    omega⟩⟩
  clear hb4 hd4 hs23
  go_wp2
  go_loopw [9, 10, 33] (fun x y i wr => ∃ k : Nat, k ≤ n ∧ i = .int .i64 k ∧ Aside0 (LS w w2.heap.size p po k x y wr)) (fun _ _ i _ => n - (intOf i).toNat)
  case atStart => exact ⟨0, by omega, rfl, ⟨HL4.out⟩⟩
  case round =>
    obtain ⟨k, hk, rfl, HS⟩ := hrel
    by_cases hlt : k < n
    · obtain ⟨d, hok, hbw, hst⟩ := HS.out
      have BW := Lib.hid hbw
      have HOK := Lib.hid hok
      have HST := Lib.hid hst
      have hsw := hbw.size
      clear hok hbw hst HS
      have HO' := Lib.hid (HR.out.below BW.out)
      obtain ⟨b, off, rfl, hat⟩ := HO'.out.at_ (by omega)
      obtain ⟨e0, e1, e2, e3⟩ := hat k hlt
      have hmem := getD_memO os k (by rw [HL.out]; exact hlt)
      have HI := Lib.hid (HR.out.ok _ hmem)
      have HRD := Lib.hid (HR.out.rd _ hmem)
      have hl := HRD.out.len
      have hsb := sumB_mem os hmem
      clear hat hmem
      generalize os.getD k nilO = o at *
      obtain ⟨kd, on, ok, oA, om, oc, ys⟩ := o
      dsimp only at *
      have hoc := HI.out.c
      have hbb := below_alloc (Below.refl wr.heap.size wr) (.cells #[.int .i64 kd, .int .i64 on, .int .i64 ok, .slice oA om oc] 41)
      have c3 : (wr.alloc (.cells #[.int .i64 kd, .int .i64 on, .int .i64 ok, .slice oA om oc] 41)).cell? ⟨wr.heap.size, 3, none⟩ = some (.slice oA om oc) := by simp
      have c0 : (wr.alloc (.cells #[.int .i64 kd, .int .i64 on, .int .i64 ok, .slice oA om oc] 41)).cell? ⟨wr.heap.size, 0, none⟩ = some (.int .i64 kd) := by simp
      have c1 : (wr.alloc (.cells #[.int .i64 kd, .int .i64 on, .int .i64 ok, .slice oA om oc] 41)).cell? ⟨wr.heap.size, 1, none⟩ = some (.int .i64 on) := by simp
      have c2 : (wr.alloc (.cells #[.int .i64 kd, .int .i64 on, .int .i64 ok, .slice oA om oc] 41)).cell? ⟨wr.heap.size, 2, none⟩ = some (.int .i64 ok) := by simp
      have hbx : wr.heap.size < (wr.alloc (.cells #[.int .i64 kd, .int .i64 on, .int .i64 ok, .slice oA om oc] 41)).heap.size := by simp
      have B7 := Lib.hid (BW.out.trans (hbb.mono hsw))
      have HB7 := Lib.hid hbb
      clear hbb
      go_upto_region 15 with fail
      have HTB := Lib.hid (HST.out.box HB7.out hbx)
      have HT7 := Lib.hid (HST.out.below HB7.out)
      clear HST
      by_cases hk0 : kd = 0
      · subst hk0
        have D7 := Lib.hid (Below.refl (wr.alloc (.cells #[.int .i64 0, .int .i64 on, .int .i64 ok, .slice oA om oc] 41)).heap.size (wr.alloc (.cells #[.int .i64 0, .int .i64 on, .int .i64 ok, .slice oA om oc] 41))).drew
        have B8 := Lib.hid (B7.out.trans (D7.out.mono B7.out.size))
        have HAP := (HTB.out.below D7.out).app HOK.out oA om oc ys HRD.out B8.out hs2 (by omega) (by omega) (by omega) (HT.out.below B8.out)
        rcases HAP with ⟨rfl, rfl⟩ | ⟨q1, q2, r, d8, rfl, rfl, hok8, hcall⟩
        · clear D7 B8
          have CH := Lib.hid (HT7.out.held HOK.out (by omega) (by omega))
          go_wp2_with fail
          refine CH.out.mono ?_
          rintro e wz ⟨rfl, hbz⟩
          have HN := Lib.hid (LS.next (k := k) (HT7.out.more (by omega)) (HOK.out.more (by omega) (by omega)) B7.out hbz)
          clear hbz
          go_wp2
          go_roundw
          case rel => exact ⟨k + 1, by omega, by go_num, ⟨HN.out⟩⟩
          case measure => simp [intOf]; omega
        · have c38 := pw_cell_below D7.out c3
          have HOK8 := Lib.hid hok8
          have HC8 := Lib.hid hcall
          clear hok8 hcall HT7 HTB
          go_wp2_with fail
          go_region_held3 (fun W : World => W.cell? ⟨wr.heap.size, 3, none⟩ = some (.slice oA om oc)) (first | assumption) (first | (go_at_call 18; ((with_reducible refine HC8.out.mono ?_)); rintro e w9 ⟨rfl, hi9, hb9, hc9⟩; have c39 := (World.cell?_of_block (a := ⟨wr.heap.size, 3, none⟩) hi9).trans c38; have B9 := Lib.hid (B8.out.trans (hb9.mono hs2)); have HC9 := Lib.hid hc9; clear hi9 hb9 hc9) | (go_at_call 24; ((with_reducible refine HC9.out.mono ?_)); rintro e wa ⟨rfl, hia, hta, hba⟩; have c3a := (World.cell?_of_block (a := ⟨wr.heap.size, 3, none⟩) hia).trans c39; have BA := Lib.hid (B9.out.trans (hba.mono hs2)); have HTA := Lib.hid hta; clear hia hta hba) | fail)
          have hrr : (r != r) = false := by simp
          have CH := Lib.hid (HTA.out.held HOK8.out (by omega) (by omega))
          go_wp2_with fail
          refine CH.out.mono ?_
          rintro e wz ⟨rfl, hbz⟩
          have HN := Lib.hid (LS.next (k := k) (HTA.out.more (by omega)) (HOK8.out.more (by omega) (by omega)) BA.out hbz)
          clear hbz
          go_wp2
          go_roundw
          case rel => exact ⟨k + 1, by omega, by go_num, ⟨HN.out⟩⟩
          case measure => simp [intOf]; omega
      by_cases hk1 : kd = 1
      · subst hk1
        have D7 := Lib.hid (Below.refl (wr.alloc (.cells #[.int .i64 1, .int .i64 on, .int .i64 ok, .slice oA om oc] 41)).heap.size (wr.alloc (.cells #[.int .i64 1, .int .i64 on, .int .i64 ok, .slice oA om oc] 41))).drew
        have B8 := Lib.hid (B7.out.trans (D7.out.mono B7.out.size))
        have HAP := (HTB.out.below D7.out).ck HOK.out oA om oc ys HRD.out B8.out hs2 (by omega) (by omega) (by omega) (HT.out.below B8.out)
        rcases HAP with ⟨rfl, rfl⟩ | ⟨q1, q2, r, d8, rfl, rfl, hok8, hcall⟩
        · clear D7 B8
          have CH := Lib.hid (HT7.out.held HOK.out (by omega) (by omega))
          go_wp2_with fail
          refine CH.out.mono ?_
          rintro e wz ⟨rfl, hbz⟩
          have HN := Lib.hid (LS.next (k := k) (HT7.out.more (by omega)) (HOK.out.more (by omega) (by omega)) B7.out hbz)
          clear hbz
          go_wp2
          go_roundw
          case rel => exact ⟨k + 1, by omega, by go_num, ⟨HN.out⟩⟩
          case measure => simp [intOf]; omega
        · have c38 := pw_cell_below D7.out c3
          have HOK8 := Lib.hid hok8
          have HC8 := Lib.hid hcall
          clear hok8 hcall HT7 HTB
          go_wp2_with fail
          go_region_held3 (fun W : World => W.cell? ⟨wr.heap.size, 3, none⟩ = some (.slice oA om oc)) (first | assumption) (first | (go_at_call 19; ((with_reducible refine HC8.out.mono ?_)); rintro e w9 ⟨rfl, hi9, hb9, hc9⟩; have c39 := (World.cell?_of_block (a := ⟨wr.heap.size, 3, none⟩) hi9).trans c38; have B9 := Lib.hid (B8.out.trans (hb9.mono hs2)); have HC9 := Lib.hid hc9; clear hi9 hb9 hc9) | (go_at_call 25; ((with_reducible refine HC9.out.mono ?_)); rintro e wa ⟨rfl, hia, hta, hba⟩; have c3a := (World.cell?_of_block (a := ⟨wr.heap.size, 3, none⟩) hia).trans c39; have BA := Lib.hid (B9.out.trans (hba.mono hs2)); have HTA := Lib.hid hta; clear hia hta hba) | fail)
          have hrr : (r != r) = false := by simp
          have CH := Lib.hid (HTA.out.held HOK8.out (by omega) (by omega))
          go_wp2_with fail
          refine CH.out.mono ?_
          rintro e wz ⟨rfl, hbz⟩
          have HN := Lib.hid (LS.next (k := k) (HTA.out.more (by omega)) (HOK8.out.more (by omega) (by omega)) BA.out hbz)
          clear hbz
          go_wp2
          go_roundw
          case rel => exact ⟨k + 1, by omega, by go_num, ⟨HN.out⟩⟩
          case measure => simp [intOf]; omega
      by_cases hk2 : kd = 2
      · subst hk2
        obtain ⟨cr1, hd1, hst1⟩ := HTB.out.prog
        have CA := Lib.hid (arm_any hd1 on ok HI.out.n)
        have HST1 := Lib.hid hst1
        have HA1 := Lib.hid (HOK.out.arm HI.out.n.2 HI.out.k)
        clear hd1 hst1 HTB HT7
        go_wp2_with fail
        refine CA.out.mono ?_
        rintro e w8 ⟨rfl, h8, s8⟩
        obtain ⟨ht8, hb8, hi8⟩ := HST1.out w8 _ ⟨_, h8, s8⟩
        have c18 := (World.cell?_of_block (a := ⟨wr.heap.size, 1, none⟩) hi8).trans c1
        have c28 := (World.cell?_of_block (a := ⟨wr.heap.size, 2, none⟩) hi8).trans c2
        have B8 := Lib.hid (B7.out.trans (hb8.mono hs2))
        obtain ⟨cr2, hd2, hst2⟩ := ht8.doc
        have CA2 := Lib.hid (rarm_any hd2 on ok)
        have HST2 := Lib.hid hst2
        clear h8 s8 ht8 hb8 hi8 hd2 hst2 CA HST1
        go_wp2_with fail
        refine CA2.out.mono ?_
        rintro e w9 ⟨rfl, h9, s9⟩
        obtain ⟨ht9, hb9, hi9⟩ := HST2.out w9 _ ⟨_, h9, s9⟩
        have HT9 := Lib.hid ht9.off
        have B9 := Lib.hid (B8.out.trans (hb9.mono hs2))
        clear h9 s9 ht9 hb9 hi9 CA2 HST2
        have CH := Lib.hid (HT9.out.held HA1.out (by omega) (by omega))
        go_wp2_with fail
        refine CH.out.mono ?_
        rintro e wz ⟨rfl, hbz⟩
        have HN := Lib.hid (LS.next (k := k) (HT9.out.more (by omega)) (HA1.out.more (by omega) (by omega)) B9.out hbz)
        clear hbz
        go_wp2
        go_roundw
        case rel => exact ⟨k + 1, by omega, by go_num, ⟨HN.out⟩⟩
        case measure => simp [intOf]; omega
      by_cases hk3 : kd = 3
      · subst hk3
        obtain ⟨cr1, hd1, hst1⟩ := HTB.out.prog
        have HSM := Lib.hid (HOK.out.fit (by omega) (by omega)).b
        have CA := Lib.hid (off_any hd1 HSM.out ok HI.out.k)
        have HST1 := Lib.hid hst1
        have HA1 := Lib.hid (HOK.out.off ok)
        clear hd1 hst1 HTB HT7
        go_wp2_with fail
        refine CA.out.mono ?_
        rintro e w8 ⟨rfl, hp8⟩
        obtain ⟨ht8, hb8, hi8⟩ := HST1.out w8 _ hp8
        have c28 := (World.cell?_of_block (a := ⟨wr.heap.size, 2, none⟩) hi8).trans c2
        have B8 := Lib.hid (B7.out.trans (hb8.mono hs2))
        obtain ⟨cr2, hd2, hst2⟩ := ht8.doc
        have CA2 := Lib.hid (roff_any hd2 HSM.out ok)
        have HST2 := Lib.hid hst2
        clear hp8 ht8 hb8 hi8 hd2 hst2 CA HST1
        go_wp2_with fail
        refine CA2.out.mono ?_
        rintro e w9 ⟨rfl, hp9⟩
        obtain ⟨ht9, hb9, hi9⟩ := HST2.out w9 _ hp9
        have HT9 := Lib.hid ht9.off
        have B9 := Lib.hid (B8.out.trans (hb9.mono hs2))
        clear hp9 ht9 hb9 hi9 CA2 HST2
        have CH := Lib.hid (HT9.out.held HA1.out (by omega) (by omega))
        go_wp2_with fail
        refine CH.out.mono ?_
        rintro e wz ⟨rfl, hbz⟩
        have HN := Lib.hid (LS.next (k := k) (HT9.out.more (by omega)) (HA1.out.more (by omega) (by omega)) B9.out hbz)
        clear hbz
        go_wp2
        go_roundw
        case rel => exact ⟨k + 1, by omega, by go_num, ⟨HN.out⟩⟩
        case measure => simp [intOf]; omega
      by_cases hk4 : kd = 4
      · subst hk4
        obtain ⟨cr1, hd1, hst1⟩ := HTB.out.prog
        have CA := Lib.hid (on_any hd1)
        have HST1 := Lib.hid hst1
        have HA1 := Lib.hid HOK.out.on
        clear hd1 hst1 HTB HT7
        go_wp2_with fail
        refine CA.out.mono ?_
        rintro e w8 ⟨rfl, h8, s8⟩
        obtain ⟨ht8, hb8, hi8⟩ := HST1.out w8 _ ⟨_, h8, s8⟩
        have c38 := (World.cell?_of_block (a := ⟨wr.heap.size, 3, none⟩) hi8).trans c3
        have B8 := Lib.hid (B7.out.trans (hb8.mono hs2))
        obtain ⟨cr2, hd2, hst2⟩ := ht8.doc
        have f4 := hd2.free 4
        have y4 := hd2.cells.2.2.2.2.1
        obtain ⟨ht9, hb9, hi9⟩ := hst2 (w8.setCell ⟨po, 4, none⟩ (.bool true)) (onD d) ⟨cr2, hd2.scal 4 (.bool true) rfl rfl, step_put hd2.hp cr2 w8 4 (.bool true)⟩
        have c39 := (World.cell?_of_block (a := ⟨wr.heap.size, 3, none⟩) hi9).trans c38
        have B9 := Lib.hid (B8.out.trans (hb9.mono hs2))
        have HT9 := Lib.hid ht9
        clear h8 s8 ht8 hb8 hi8 hd2 hst2 ht9 hb9 hi9 CA HST1
        obtain ⟨hokn, hcall⟩ := HT9.out.open_ HA1.out oA om oc ys HRD.out B9.out hs2 (by omega) (by omega) (by omega) (HT.out.below B9.out)
        have HOKN := Lib.hid hokn
        have HCN := Lib.hid hcall
        clear hokn hcall
        generalize (openR _ ys).e = r at HCN
        generalize (openR _ ys).d = dn at HCN HOKN
        go_wp2_with fail
        refine HCN.out.mono ?_
        rintro e wp ⟨⟨hip, hbp⟩, ⟨hne, rfl, hcp⟩ | ⟨hr0, q1, A1, n1, e1, B1, m1, k1, s1, rs1, rfl, hcp⟩⟩
        · have c3p := (World.cell?_of_block (a := ⟨wr.heap.size, 3, none⟩) hip).trans c39
          have BP := Lib.hid (B9.out.trans (hbp.mono hs2))
          have HCP := Lib.hid hcp
          have hre : (r == 0) = false := beq_eq_false_iff_ne.2 hne
          have hrn : (r != 0) = true := by simp [hne]
          have hrr : (r != r) = false := by simp
          clear hip hbp hcp hne HCN
          go_wp2_with fail
          refine HCP.out.mono ?_
          rintro e wq ⟨rfl, htq, hbq⟩
          have BQ := Lib.hid (BP.out.trans (hbq.mono hs2))
          have HTQ := Lib.hid htq
          clear htq hbq HCP
          have CH := Lib.hid (HTQ.out.held HOKN.out (by omega) (by omega))
          go_wp2_with fail
          refine CH.out.mono ?_
          rintro e wz ⟨rfl, hbz⟩
          have HN := Lib.hid (LS.next (k := k) (HTQ.out.more (by omega)) (HOKN.out.more (by omega) (by omega)) BQ.out hbz)
          clear hbz
          go_wp2
          go_roundw
          case rel => exact ⟨k + 1, by omega, by go_num, ⟨HN.out⟩⟩
          case measure => simp [intOf]; omega
        · subst hr0
          have c3p := (World.cell?_of_block (a := ⟨wr.heap.size, 3, none⟩) hip).trans c39
          have BP := Lib.hid (B9.out.trans (hbp.mono hs2))
          have HCP := Lib.hid hcp
          clear hip hbp hcp HCN
          go_wp2_with fail
          refine HCP.out.mono ?_
          rintro e wq ⟨q2, A2, n2, e2, B2, m2, k2, rfl, htq, hbq, ⟨z3, z4⟩, ⟨ra, rb⟩, rc, rd⟩
          have BQ := Lib.hid (BP.out.trans (hbq.mono hs2))
          have HTQ := Lib.hid htq
          have HSM := Lib.hid (same_any A1 n1 e1 s1 A2 n2 e2 s1 wq ra rc)
          rw [eqL_self] at HSM
          have HAL := Lib.hid (fun W (hb : Below wq.heap.size wq W) => framer.alike_any B1 m1 k1 rs1 B2 m2 k2 rs1 W (rb.below hb) (rd.below hb))
          rw [framer.eqLL_self] at HAL
          clear htq hbq ra rb rc rd HCP
          go_wp2_with fail
          refine HSM.out.mono ?_
          rintro e w' ⟨rfl, ⟨q6, rfl⟩⟩
          have B6 := Lib.hid (pw_below_drewN (Below.refl wq.heap.size wq) q6)
          have z46 := pw_cell_below B6.out z4
          clear HSM
          go_wp2_with fail
          refine (HAL.out _ B6.out).mono ?_
          rintro e w' ⟨rfl, ⟨q7, rfl⟩⟩
          have B7b := Lib.hid (pw_below_drewN (Below.refl wq.heap.size wq) (q6 + q7))
          have BR := Lib.hid (BQ.out.trans (B7b.out.mono BQ.out.size))
          have HTR := Lib.hid (HTQ.out.below B7b.out)
          clear HAL
          have CH := Lib.hid (HTR.out.held HOKN.out (by omega) (by omega))
          go_wp2_with fail
          refine CH.out.mono ?_
          rintro e wz ⟨rfl, hbz⟩
          have HN := Lib.hid (LS.next (k := k) (HTR.out.more (by omega)) (HOKN.out.more (by omega) (by omega)) BR.out hbz)
          clear hbz
          go_wp2
          go_roundw
          case rel => exact ⟨k + 1, by omega, by go_num, ⟨HN.out⟩⟩
          case measure => simp [intOf]; omega
      by_cases hk5 : kd = 5
      · subst hk5
        clear HT7
        obtain ⟨hokn, hcall⟩ := HTB.out.open_ HOK.out oA om oc ys HRD.out B7.out hs2 (by omega) (by omega) (by omega) (HT.out.below B7.out)
        have HOKN := Lib.hid hokn
        have HCN := Lib.hid hcall
        clear hokn hcall
        generalize (openR _ ys).e = r at HCN
        generalize (openR _ ys).d = dn at HCN HOKN
        go_wp2_with fail
        refine HCN.out.mono ?_
        rintro e wp ⟨⟨hip, hbp⟩, ⟨hne, rfl, hcp⟩ | ⟨hr0, q1, A1, n1, e1, B1, m1, k1, s1, rs1, rfl, hcp⟩⟩
        · have c3p := (World.cell?_of_block (a := ⟨wr.heap.size, 3, none⟩) hip).trans c3
          have BP := Lib.hid (B7.out.trans (hbp.mono hs2))
          have HCP := Lib.hid hcp
          have hre : (r == 0) = false := beq_eq_false_iff_ne.2 hne
          have hrn : (r != 0) = true := by simp [hne]
          have hrr : (r != r) = false := by simp
          clear hip hbp hcp hne HCN
          go_wp2_with fail
          refine HCP.out.mono ?_
          rintro e wq ⟨rfl, htq, hbq⟩
          have BQ := Lib.hid (BP.out.trans (hbq.mono hs2))
          have HTQ := Lib.hid htq
          clear htq hbq HCP
          have CH := Lib.hid (HTQ.out.held HOKN.out (by omega) (by omega))
          go_wp2_with fail
          refine CH.out.mono ?_
          rintro e wz ⟨rfl, hbz⟩
          have HN := Lib.hid (LS.next (k := k) (HTQ.out.more (by omega)) (HOKN.out.more (by omega) (by omega)) BQ.out hbz)
          clear hbz
          go_wp2
          go_roundw
          case rel => exact ⟨k + 1, by omega, by go_num, ⟨HN.out⟩⟩
          case measure => simp [intOf]; omega
        · subst hr0
          have c3p := (World.cell?_of_block (a := ⟨wr.heap.size, 3, none⟩) hip).trans c3
          have BP := Lib.hid (B7.out.trans (hbp.mono hs2))
          have HCP := Lib.hid hcp
          clear hip hbp hcp HCN
          go_wp2_with fail
          refine HCP.out.mono ?_
          rintro e wq ⟨q2, A2, n2, e2, B2, m2, k2, rfl, htq, hbq, ⟨z3, z4⟩, ⟨ra, rb⟩, rc, rd⟩
          have BQ := Lib.hid (BP.out.trans (hbq.mono hs2))
          have HTQ := Lib.hid htq
          have HSM := Lib.hid (same_any A1 n1 e1 s1 A2 n2 e2 s1 wq ra rc)
          rw [eqL_self] at HSM
          have HAL := Lib.hid (fun W (hb : Below wq.heap.size wq W) => framer.alike_any B1 m1 k1 rs1 B2 m2 k2 rs1 W (rb.below hb) (rd.below hb))
          rw [framer.eqLL_self] at HAL
          clear htq hbq ra rb rc rd HCP
          go_wp2_with fail
          refine HSM.out.mono ?_
          rintro e w' ⟨rfl, ⟨q6, rfl⟩⟩
          have B6 := Lib.hid (pw_below_drewN (Below.refl wq.heap.size wq) q6)
          have z46 := pw_cell_below B6.out z4
          clear HSM
          go_wp2_with fail
          refine (HAL.out _ B6.out).mono ?_
          rintro e w' ⟨rfl, ⟨q7, rfl⟩⟩
          have B7b := Lib.hid (pw_below_drewN (Below.refl wq.heap.size wq) (q6 + q7))
          have BR := Lib.hid (BQ.out.trans (B7b.out.mono BQ.out.size))
          have HTR := Lib.hid (HTQ.out.below B7b.out)
          clear HAL
          have CH := Lib.hid (HTR.out.held HOKN.out (by omega) (by omega))
          go_wp2_with fail
          refine CH.out.mono ?_
          rintro e wz ⟨rfl, hbz⟩
          have HN := Lib.hid (LS.next (k := k) (HTR.out.more (by omega)) (HOKN.out.more (by omega) (by omega)) BR.out hbz)
          clear hbz
          go_wp2
          go_roundw
          case rel => exact ⟨k + 1, by omega, by go_num, ⟨HN.out⟩⟩
          case measure => simp [intOf]; omega
      have b0 : (kd == 0) = false := beq_eq_false_iff_ne.2 hk0
      have b1 : (kd == 1) = false := beq_eq_false_iff_ne.2 hk1
      have b2 : (kd == 2) = false := beq_eq_false_iff_ne.2 hk2
      have b3 : (kd == 3) = false := beq_eq_false_iff_ne.2 hk3
      have b4 : (kd == 4) = false := beq_eq_false_iff_ne.2 hk4
      have b5 : (kd == 5) = false := beq_eq_false_iff_ne.2 hk5
      have CH := Lib.hid (HT7.out.held HOK.out (by omega) (by omega))
      clear hk0 hk1 hk2 hk3 hk4 hk5
      go_wp2_with fail
      refine CH.out.mono ?_
      rintro e w9 ⟨rfl, hb9⟩
      have HN := Lib.hid (LS.next (k := k) (HT7.out.more (by omega)) (HOK.out.more (by omega) (by omega)) B7.out hb9)
      clear hb9
      go_wp2
      go_roundw
      case rel => exact ⟨k + 1, by omega, by go_num, ⟨HN.out⟩⟩
      case measure => simp [intOf]; omega
    · obtain ⟨_, _, BW, _⟩ := HS.out
      have BF := Lib.hid BW
      clear BW
      go_wp2
      go_ret
      exact ⟨rfl, BF.out⟩
end Go.Proofs.YtfinaikgikifcaaDoor.vaultk5
