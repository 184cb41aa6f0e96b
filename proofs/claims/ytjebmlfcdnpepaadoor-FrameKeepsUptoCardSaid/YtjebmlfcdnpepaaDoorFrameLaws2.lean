/- The walk of the law FrameReads. -/
import Derived.Test.YtjebmlfcdnpepaaDoorFrameMem
import Derived.Sort.CutIn
set_option linter.unusedVariables false
set_option linter.unusedSimpArgs false
namespace Go.Proofs.YtjebmlfcdnpepaaDoor.framel2
open Go.RowKit Go.Shelf Go.Proofs.YtjebmlfcdnpepaaDoorW.PrintWords Go.Proofs.YtjebmlfcdnpepaaDoor.base Go.Proofs.YtjebmlfcdnpepaaDoor.mem Go.Proofs.YtjebmlfcdnpepaaDoor.crcp Go.Proofs.YtjebmlfcdnpepaaDoor.crcw Go.Proofs.YtjebmlfcdnpepaaDoor.samew Go.Proofs.YtjebmlfcdnpepaaDoor.keep Go.Proofs.YtjebmlfcdnpepaaDoor.framep Go.Proofs.YtjebmlfcdnpepaaDoor.framew Go.Proofs.YtjebmlfcdnpepaaDoor.frameit Go.Proofs.YtjebmlfcdnpepaaDoor.framem Go.Proofs.YtjebmlfcdnpepaaDoor.framel Go.Proofs.YtjebmlfcdnpepaaDoor.framea Go.Proofs.YtjebmlfcdnpepaaDoor.framer Go.Proofs.YtjebmlfcdnpepaaDoor.framen Go.Proofs.YtjebmlfcdnpepaaDoor.over
attribute [local go_sem] Oper.semAt_some
theorem keepsFrom_below {B : Nat} {W W' : World} (hb : Below W.heap.size W W') : KeepsFrom B W W' := ⟨hb.size, fun i o _ hi _ => by rw [hb.block i (Array.getElem?_eq_some_iff.1 hi).1]; exact hi⟩
theorem twoPC (W : World) (t : TypeId) : PC W.heap.size 0 ((W.alloc (.cells #[.int .i64 0] t)).alloc (.cells #[.int .i64 0] t)) ∧ PC (W.heap.size + 1) 0 ((W.alloc (.cells #[.int .i64 0] t)).alloc (.cells #[.int .i64 0] t)) := by
  have h := PC.new (W.alloc (.cells #[.int .i64 0] t)) t 0
  rw [World.size_alloc] at h
  exact ⟨(PC.new W t 0).below (below_alloc (Below.refl _ _) _), h⟩
theorem stepF {w4 W : World} {lo p q B : Nat} {ds : List Nat} {pre : List It} {x : It} {t1 t2 : Int} (hn : PC p (pre.length : Nat) W) (ha : PC (p + 1) (endOf pre : Nat) W) (hM : FM w4 ds W) (hp : w4.heap.size ≤ p) (hds : ∀ D ∈ ds, D < p) (hg : 0 < w4.heap.size)
    (hx : x.p = endOf pre) (h1 : t1 = (endOf pre : Nat) + (8 + (x.n : Int))) (h2 : t2 = (pre.length : Int) + 1) :
    KeepsFrom B W (((W.drewN q).setCell ⟨p + 1, 0, none⟩ (.int .i64 t1)).setCell ⟨p, 0, none⟩ (.int .i64 t2)) ∧ KT lo w4.heap.size W (((W.drewN q).setCell ⟨p + 1, 0, none⟩ (.int .i64 t1)).setCell ⟨p, 0, none⟩ (.int .i64 t2)) ∧
      (PC p ((pre ++ [x]).length : Nat) (((W.drewN q).setCell ⟨p + 1, 0, none⟩ (.int .i64 t1)).setCell ⟨p, 0, none⟩ (.int .i64 t2)) ∧ PC (p + 1) (endOf (pre ++ [x]) : Nat) (((W.drewN q).setCell ⟨p + 1, 0, none⟩ (.int .i64 t1)).setCell ⟨p, 0, none⟩ (.int .i64 t2))) ∧ FM w4 ds (((W.drewN q).setCell ⟨p + 1, 0, none⟩ (.int .i64 t1)).setCell ⟨p, 0, none⟩ (.int .i64 t2)) := by
  have hd := pw_below_drewN (Below.refl W.heap.size W) q
  have hz := hM.1.size
  have hzd : w4.heap.size ≤ (W.drewN q).heap.size := Nat.le_trans hz hd.size
  have hz2 : w4.heap.size ≤ ((W.drewN q).setCell ⟨p + 1, 0, none⟩ (.int .i64 t1)).heap.size := by simpa [World.setCell] using hzd
  have e1 : t2 = ((pre ++ [x]).length : Nat) := by rw [h2]; simp
  have e2 : t1 = (endOf (pre ++ [x]) : Nat) := by rw [h1, endOf_snoc, hx]; simp; omega
  refine ⟨(keepsFrom_below hd).trans ((keepsFrom_set _ _).trans (keepsFrom_set _ _)), KT.trans (KT.below hd hz) (KT.trans (KT.past hzd (by omega) (by omega) _) (KT.past hz2 hp (by omega) _)), ⟨?_, ?_⟩, ?_⟩
  · rw [← e1]
    exact ((hn.below hd).other (by omega) _).set _
  · rw [← e2]
    exact ((ha.below hd).set _).other (by omega) _
  · exact ((hM.below hd).set (by omega) (fun D hD => by have := hds D hD; omega) _).set hp (fun D hD => by have := hds D hD; omega) _
theorem stepC {w4 W : World} {lo p B : Nat} {ds : List Nat} {pre : List It} {x : It} (hn : PC p (pre.length : Nat) W) (hM : FM w4 ds W) (hp : w4.heap.size ≤ p) (hds : ∀ D ∈ ds, D < p) (hg : 0 < w4.heap.size) :
    KeepsFrom B W (W.setCell ⟨p, 0, none⟩ (.int .i64 ((pre.length : Int) + 1))) ∧ KT lo w4.heap.size W (W.setCell ⟨p, 0, none⟩ (.int .i64 ((pre.length : Int) + 1))) ∧
      PC p ((pre ++ [x]).length : Nat) (W.setCell ⟨p, 0, none⟩ (.int .i64 ((pre.length : Int) + 1))) ∧ FM w4 ds (W.setCell ⟨p, 0, none⟩ (.int .i64 ((pre.length : Int) + 1))) := by
  refine ⟨keepsFrom_set _ _, KT.past hM.1.size hp (by omega) _, ?_, hM.set hp (fun D hD => by have := hds D hD; omega) _⟩
  have := hn.set ((pre.length : Int) + 1)
  rw [show (pre ++ [x]).length = pre.length + 1 from by simp]
  exact this
set_option maxHeartbeats 4000000 in
set_option maxRecDepth 100000 in
theorem readsLaw (A : Option Addr) (n c : Nat) (xs : List Int) (stop : Int) (w : World) (hr : RdB w A n xs) (hc : n ≤ c) (hn : n + 1 ≤ 1048576) (hst : -9223372036854775808 ≤ stop ∧ stop ≤ 9223372036854775807) (ht : Table w) :
    Calls Tryd.prog 4 #[.slice A n c, .int .i64 stop] w fun e w' => e = .returned (.bool true) ∧ Below w.heap.size w w' := by
  have HR := Lib.hid hr
  have HT := Lib.hid ht
  have hn' : n ≤ 1048576 := by omega
  have hfl := flist_len xs
  rw [hr.len] at hfl
  have hg0 := Table.lt ht
  clear hr hn ht
  have HB0 := Lib.hid ((below_alloc (Below.refl w.heap.size w) (.cells #[.int .i64 stop] 3)).alloc (by simp) (.cells #[.bool false] 4))
  have t3 : ((w.alloc (.cells #[.int .i64 stop] 3)).alloc (.cells #[.bool false] 4)).cell? ⟨w.heap.size, 0, none⟩ = some (.int .i64 stop) := by rw [World.cell?_alloc_past _ _ _ (by rw [World.size_alloc]; omega)]; simp
  have t4 : ((w.alloc (.cells #[.int .i64 stop] 3)).alloc (.cells #[.bool false] 4)).cell? ⟨w.heap.size + 1, 0, none⟩ = some (.bool false) := World.cell?_alloc_at _ _ _ _ (by simp)
  have f4 : ((w.alloc (.cells #[.int .i64 stop] 3)).alloc (.cells #[.bool false] 4)).frozen? ⟨w.heap.size + 1, 0, none⟩ = false := World.frozen?_alloc_at _ _ _ _ (by simp)
  have hs0 := HB0.out.size
  have hz0 : ((w.alloc (.cells #[.int .i64 stop] 3)).alloc (.cells #[.bool false] 4)).heap.size = w.heap.size + 1 + 1 := by simp
  have HT0 := Lib.hid (HT.out.below HB0.out)
  refine (callsIn_wide (n := 6)).1 ?_
  refine callsIn_of_wp_marks Tryd.func4 rfl trivial ?_ rfl
  simp only [Tryd.ntmps4, List.size_toArray, List.length_cons, List.length_nil, Nat.reduceAdd, Nat.reduceSub, Array.replicate_succ, Array.replicate_zero, List.push_toArray, List.append_toArray, List.nil_append, List.cons_append]
  refine wpIn_wide.2 ?_
  go_wp2_with fail
  refine (wakes_any _ HT0.out).mono ?_
  rintro e w1 ⟨rfl, hb⟩
  have c3 := pw_cell_below hb t3
  have c4 := pw_cell_below hb t4
  have r4 : w1.frozen? ⟨w.heap.size + 1, 0, none⟩ = false := (hb.frozen (p := ⟨w.heap.size + 1, 0, none⟩) (by rw [hz0]; show w.heap.size + 1 < _; omega)).trans f4
  have HB1 := Lib.hid (HB0.out.trans (hb.mono hs0))
  have hs1 : w.heap.size + 1 + 1 ≤ w1.heap.size := by rw [← hz0]; exact hb.size
  clear t3 t4 f4 hb hs0 hz0
  go_wp2_with fail
  refine (refall_any _ _ _ xs _ (HR.out.below HB1.out) hc hn').mono ?_
  rintro e w2 ⟨A2, n2, c2, cells, rfl, hov, hrw, hb⟩
  have hl2 := hov.len
  rw [hrw.len, pays_len] at hl2
  have HX := Lib.hid (OwV.rd hov hrw.of (by omega))
  have d3 := pw_cell_below hb c3
  have d4 := pw_cell_below hb c4
  have s4 := (hb.frozen (p := ⟨w.heap.size + 1, 0, none⟩) (by show w.heap.size + 1 < _; omega)).trans r4
  have HB2 := Lib.hid (HB1.out.trans (hb.mono (by omega)))
  have hs2 := Nat.le_trans hs1 hb.size
  clear c3 c4 r4 hb hov hrw
  go_wp2_with fail
  have HB3 := Lib.hid (HB2.out.alloc (by omega) (.cells #[.slice A2 n2 c2] 29))
  have hba := below_alloc (Below.refl w2.heap.size w2) (.cells #[.slice A2 n2 c2] 29)
  have hw : (w2.alloc (.cells #[.slice A2 n2 c2] 29)).cell? ⟨w2.heap.size, 0, none⟩ = some (.slice A2 n2 c2) := by simp
  have hz3 : (w2.alloc (.cells #[.slice A2 n2 c2] 29)).heap.size = w2.heap.size + 1 := by simp
  refine (frames_any A n c xs _ (HR.out.below HB3.out) (by omega)).mono ?_
  rintro e w4 ⟨Bs, rfl, hN, hb⟩
  have hb24 := hba.trans (hb.mono hba.size)
  have H4 : Hid (w4.cell? ⟨w.heap.size, 0, none⟩ = some (.int .i64 stop) ∧ w4.cell? ⟨w.heap.size + 1, 0, none⟩ = some (.bool false) ∧ w4.frozen? ⟨w.heap.size + 1, 0, none⟩ = false ∧ w4.cell? ⟨w2.heap.size, 0, none⟩ = some (.slice A2 n2 c2) ∧ RdBB w4 A2 n2 (pays xs) ∧ NumsAt (w2.heap.size + 1) w4.heap.size w4 Bs xs ∧ Below w.heap.size w w4) :=
    Lib.hid ⟨pw_cell_below hb24 d3, pw_cell_below hb24 d4, (hb24.frozen (p := ⟨w.heap.size + 1, 0, none⟩) (by show w.heap.size + 1 < _; omega)).trans s4, pw_cell_below hb hw, HX.out.below hb24, by rw [hz3] at hN; exact hN, HB2.out.trans (hb24.mono (by omega))⟩
  have hs4 : w2.heap.size + 1 ≤ w4.heap.size := by rw [← hz3]; exact hb.size
  have HT4 := Lib.hid (HT.out.below H4.out.2.2.2.2.2.2)
  have HR4 := Lib.hid (HR.out.below H4.out.2.2.2.2.2.2)
  clear d3 d4 s4 hba hw hz3 hN hb hb24 HX HB3 HB2 HB1 HB0 HT0
  have hns := nilSeq
  obtain ⟨w5, hw5, hM5⟩ : ∃ w5, w4 = w5 ∧ FM w4 [] w5 := ⟨w4, rfl, Below.refl _ _, by simp⟩
  have HM1 := Lib.hid hM5
  have hs5 := hM5.1.size
  clear hM5
  go_wp2
  clear hw5
  refine wp_loop_rounds 3 ?_
  rw [rounds_succ]
  go_wp2
  refine (wpIn_wide (n := 6)).1 ?_
  have PA1 : Hid (PC w5.heap.size 0 ((w5.alloc (.cells #[.int .i64 0] 3)).alloc (.cells #[.int .i64 0] 3)) ∧ PC (w5.heap.size + 1) 0 ((w5.alloc (.cells #[.int .i64 0] 3)).alloc (.cells #[.int .i64 0] 3))) := Lib.hid (twoPC w5 _)
  have HMA1 := Lib.hid (HM1.out.below ((below_alloc (Below.refl w5.heap.size w5) (.cells #[.int .i64 0] 3)).alloc (by simp) (.cells #[.int .i64 0] 3)))
  have hz1 : ((w5.alloc (.cells #[.int .i64 0] 3)).alloc (.cells #[.int .i64 0] 3)).heap.size = w5.heap.size + 1 + 1 := by simp
  have hd1 : ∀ D ∈ ([] : List Nat), D < w5.heap.size := fun D hD => (Array.getElem?_eq_some_iff.1 (HM1.out.2 D hD)).1
  have hwz1 := HM1.out.1.size
  have HD1 := Lib.hid hd1
  clear hd1
  generalize (w5.alloc (.cells #[.int .i64 0] 3)).alloc (.cells #[.int .i64 0] 3) = WA1 at PA1 HMA1 hz1 ⊢
  generalize hpa1 : w5.heap.size = pA1 at PA1 hz1 HD1 hwz1 ⊢
  clear hpa1
  refine' overF rfl (H4.out.2.2.2.2.2.1.band (bandBelow HMA1.out.1 (Nat.le_refl _))) HMA1.out.1.size (HT4.out.below HMA1.out.1) rfl
    (fun pre W => (PC pA1 (pre.length : Nat) W ∧ PC (pA1 + 1) (endOf pre : Nat) W) ∧ FM w4 [] W)
    (fun _ _ _ => False)
    (fun z W W' row hs hg hr => ⟨⟨hs.1.1.own hg (fun r e => (hr r e).2), hs.1.2.own hg (fun r e => (hr r e).2)⟩, hs.2.own hg hr (by omega) (fun D hD => by have := HD1.out D hD; omega)⟩)
    (fun _ _ _ _ _ h _ _ => h)
    ⟨PA1.out, HMA1.out⟩
    (fun W => PC pA1 (n2 : Nat) W ∧ FM w4 [] W) 0 _ ?assign1 ?body1 ?s1 ?p1 ?end1
  case assign1 =>
    intro l x W K hK
    gi_wp2
    exact hK
  case s1 =>
    rintro ys W hys ⟨⟨h1, h2⟩, h3⟩
    have hyl : ys.length = n2 := by rw [← hl2, ← hys, List.length_map]
    exact ⟨by rw [← hyl]; exact h1, h3⟩
  case p1 =>
    rintro c pre W _ h
    exact h.elim
  case body1 =>
    rintro l pre x Wa W _ ⟨⟨h1, h2⟩, h3⟩ hle hck hV
    have hx := V.place hV
    have hlt : pre.length < n2 := by rw [← hl2]; exact V.lt hV
    have hBW := h3.1
    have c5 := pw_cell_below hBW H4.out.2.2.2.1
    obtain ⟨ad, rfl, a7, m7, c7, hel, hm7, hr7⟩ := (H4.out.2.2.2.2.1.below hBW).at_ pre.length hlt
    rw [V.pays hV] at hr7
    have hvo := hV.2.rd
    have HS : Hid (Calls Tryd.prog 12 #[.slice x.A x.n x.c, .slice a7 m7 c7] W fun e w' => e = .returned (.bool true) ∧ Drawn0 W w') := Lib.hid (by
      have := same_any x.A x.n x.c _ a7 m7 c7 _ W hvo hr7
      rwa [eqL_self] at this)
    have HSt : Hid (∀ q t1 t2, t1 = ((endOf pre : Nat) : Int) + (8 + (x.n : Int)) → t2 = (pre.length : Int) + 1 → _) := Lib.hid (fun q t1 t2 e1 e2 => stepF (lo := w2.heap.size + 1) (q := q) (B := WA1.heap.size) h1 h2 h3 (by omega) (fun D hD => HD1.out D hD) (by omega) hx e1 e2)
    have H1 := Lib.hid h1
    have H2 := Lib.hid h2
    obtain ⟨p1, r1⟩ := h1
    obtain ⟨p2, r2⟩ := h2
    obtain ⟨p, A5, n5, c5', hp5, hn5⟩ := x
    have hx : p = endOf pre := hx
    subst hx
    dsimp only at HS HSt
    generalize hep : endOf pre = p at *
    clear hck hV hvo hr7 hBW h3
    gi_wp2_with (refine ⟨trivial, ?_⟩; gi_at_call 12; refine (CallsIn.inRound l (callsIn_wide.2 HS.out)).mono ?_; rintro e w' ⟨rfl, ⟨q, rfl⟩⟩)
    exact HSt.out _ _ _ rfl rfl
  case end1 =>
    rintro D1 V1 hDa1 ⟨hP, hM⟩ hK
    have hdp1 : pA1 < D1 := by omega
    have HM2 := Lib.hid (hM.more hK)
    have c5 := pw_cell_below hM.1 H4.out.2.2.2.1
    obtain ⟨p1, r1⟩ := hP
    clear hM hK
    go_wp2
    rw [rounds_succ]
    go_wp2
    refine (wpIn_wide (n := 6)).1 ?_
    have PA2 : Hid (PC V1.heap.size 0 ((V1.alloc (.cells #[.int .i64 0] 3)).alloc (.cells #[.int .i64 0] 3)) ∧ PC (V1.heap.size + 1) 0 ((V1.alloc (.cells #[.int .i64 0] 3)).alloc (.cells #[.int .i64 0] 3))) := Lib.hid (twoPC V1 _)
    have HMA2 := Lib.hid (HM2.out.below ((below_alloc (Below.refl V1.heap.size V1) (.cells #[.int .i64 0] 3)).alloc (by simp) (.cells #[.int .i64 0] 3)))
    have hz2 : ((V1.alloc (.cells #[.int .i64 0] 3)).alloc (.cells #[.int .i64 0] 3)).heap.size = V1.heap.size + 1 + 1 := by simp
    have hd2 : ∀ D ∈ ([D1] : List Nat), D < V1.heap.size := fun D hD => (Array.getElem?_eq_some_iff.1 (HM2.out.2 D hD)).1
    have hwz2 := HM2.out.1.size
    have HD2 := Lib.hid hd2
    clear hd2
    generalize (V1.alloc (.cells #[.int .i64 0] 3)).alloc (.cells #[.int .i64 0] 3) = WA2 at PA2 HMA2 hz2 ⊢
    generalize hpa2 : V1.heap.size = pA2 at PA2 hz2 HD2 hwz2 ⊢
    clear hpa2
    refine' overF rfl (H4.out.2.2.2.2.2.1.band (bandBelow HMA2.out.1 (Nat.le_refl _))) HMA2.out.1.size (HT4.out.below HMA2.out.1) rfl
      (fun pre W => (PC pA2 (pre.length : Nat) W ∧ PC (pA2 + 1) (endOf pre : Nat) W) ∧ FM w4 [D1] W)
      (fun _ _ _ => False)
      (fun z W W' row hs hg hr => ⟨⟨hs.1.1.own hg (fun r e => (hr r e).2), hs.1.2.own hg (fun r e => (hr r e).2)⟩, hs.2.own hg hr (by omega) (fun D hD => by have := HD2.out D hD; omega)⟩)
      (fun _ _ _ _ _ h _ _ => h)
      ⟨PA2.out, HMA2.out⟩
      (fun W => PC pA2 (n2 : Nat) W ∧ FM w4 [D1] W) 0 _ ?assign2 ?body2 ?s2 ?p2 ?end2
    case assign2 =>
      intro l x W K hK
      gi_wp2
      exact hK
    case s2 =>
      rintro ys W hys ⟨⟨h1, h2⟩, h3⟩
      have hyl : ys.length = n2 := by rw [← hl2, ← hys, List.length_map]
      exact ⟨by rw [← hyl]; exact h1, h3⟩
    case p2 =>
      rintro c pre W _ h
      exact h.elim
    case body2 =>
      rintro l pre x Wa W _ ⟨⟨h1, h2⟩, h3⟩ hle hck hV
      have hx := V.place hV
      have hlt : pre.length < n2 := by rw [← hl2]; exact V.lt hV
      have hBW := h3.1
      have c5 := pw_cell_below hBW H4.out.2.2.2.1
      obtain ⟨ad, rfl, a7, m7, c7, hel, hm7, hr7⟩ := (H4.out.2.2.2.2.1.below hBW).at_ pre.length hlt
      rw [V.pays hV] at hr7
      have hvo := hV.2.rd
      have HS : Hid (Calls Tryd.prog 12 #[.slice x.A x.n x.c, .slice a7 m7 c7] W fun e w' => e = .returned (.bool true) ∧ Drawn0 W w') := Lib.hid (by
        have := same_any x.A x.n x.c _ a7 m7 c7 _ W hvo hr7
        rwa [eqL_self] at this)
      have HSt : Hid (∀ q t1 t2, t1 = ((endOf pre : Nat) : Int) + (8 + (x.n : Int)) → t2 = (pre.length : Int) + 1 → _) := Lib.hid (fun q t1 t2 e1 e2 => stepF (lo := w2.heap.size + 1) (q := q) (B := WA2.heap.size) h1 h2 h3 (by omega) (fun D hD => HD2.out D hD) (by omega) hx e1 e2)
      have H1 := Lib.hid h1
      have H2 := Lib.hid h2
      obtain ⟨p1, r1⟩ := h1
      obtain ⟨p2, r2⟩ := h2
      obtain ⟨p, A5, n5, c5', hp5, hn5⟩ := x
      have hx : p = endOf pre := hx
      subst hx
      dsimp only at HS HSt
      generalize hep : endOf pre = p at *
      clear hck hV hvo hr7 hBW h3
      gi_wp2_with (refine ⟨trivial, ?_⟩; gi_at_call 12; refine (CallsIn.inRound l (callsIn_wide.2 HS.out)).mono ?_; rintro e w' ⟨rfl, ⟨q, rfl⟩⟩)
      exact HSt.out _ _ _ rfl rfl
    case end2 =>
      rintro D2 V2 hDa2 ⟨hP, hM⟩ hK
      have hdp2 : pA2 < D2 := by omega
      have HM3 := Lib.hid (hM.more hK)
      have c5 := pw_cell_below hM.1 H4.out.2.2.2.1
      obtain ⟨p1, r1⟩ := hP
      clear hM hK
      go_wp2
      rw [rounds_succ]
      go_wp2
      refine (wpIn_wide (n := 6)).1 ?_
      have PC3 := Lib.hid (PC.new V2 3 0)
      have HMC := Lib.hid (HM3.out.below (below_alloc (Below.refl V2.heap.size V2) (.cells #[.int .i64 0] 3)))
      have hz3 : (V2.alloc (.cells #[.int .i64 0] 3)).heap.size = V2.heap.size + 1 := by simp
      have hd3 : ∀ D ∈ ([D2, D1] : List Nat), D < V2.heap.size := fun D hD => (Array.getElem?_eq_some_iff.1 (HM3.out.2 D hD)).1
      have hwz3 := HM3.out.1.size
      have HD3 := Lib.hid hd3
      clear hd3
      generalize V2.alloc (.cells #[.int .i64 0] 3) = WC at PC3 HMC hz3 ⊢
      generalize hpc : V2.heap.size = pC at PC3 hz3 HD3 hwz3 ⊢
      clear hpc
      refine' overF rfl (H4.out.2.2.2.2.2.1.band (bandBelow HMC.out.1 (Nat.le_refl _))) HMC.out.1.size (HT4.out.below HMC.out.1) rfl
        (fun pre W => PC pC (pre.length : Nat) W ∧ FM w4 [D2, D1] W)
        (fun cc pre W => (cc = .exit 4 ∧ PC pC (pre.length : Nat) W) ∧ FM w4 [D2, D1] W)
        (fun z W W' row hs hg hr => ⟨hs.1.own hg (fun r e => (hr r e).2), hs.2.own hg hr (by omega) (fun D hD => by have := HD3.out D hD; omega)⟩)
        (fun cc z W W' row hs hg hr => ⟨⟨hs.1.1, hs.1.2.own hg (fun r e => (hr r e).2)⟩, hs.2.own hg hr (by omega) (fun D hD => by have := HD3.out D hD; omega)⟩)
        ⟨PC3.out, HMC.out⟩
        (fun W => ∃ z : Nat, z ≤ n2 ∧ PC pC (z : Nat) W ∧ FM w4 [D2, D1] W) 4 _ ?assign3 ?body3 ?s3 ?p3 ?end3
      case assign3 =>
        intro l x W K hK
        gi_wp2
        exact hK
      case s3 =>
        rintro ys W hys ⟨h1, h3⟩
        have hyl : ys.length = n2 := by rw [← hl2, ← hys, List.length_map]
        exact ⟨_, Nat.le_of_eq hyl, h1, h3⟩
      case p3 =>
        rintro cc pre W hp ⟨⟨rfl, h1⟩, h3⟩
        have hpl := hp.length_le
        rw [List.length_map, hl2] at hpl
        exact ⟨rfl, ⟨_, hpl, h1, h3⟩, fun a w h => h⟩
      case body3 =>
        rintro l pre x Wa W _ ⟨h1, h3⟩ hle hck hV
        have hlt : pre.length < n2 := by rw [← hl2]; exact V.lt hV
        have HSt := Lib.hid (fun B => stepC (x := x) (lo := w2.heap.size + 1) (B := B) h1 h3 (by omega) (fun D hD => HD3.out D hD) (by omega))
        have c3 := pw_cell_below h3.1 H4.out.1
        obtain ⟨p1, r1⟩ := h1
        have ne3 : (⟨pC, 0, none⟩ : Addr) ≠ ⟨w.heap.size, 0, none⟩ := by intro e; injection e with e; omega
        have c8 : (W.setCell ⟨pC, 0, none⟩ (.int .i64 ((pre.length : Int) + 1))).cell? ⟨w.heap.size, 0, none⟩ = some (.int .i64 stop) := (World.cell?_setCell_other _ _ _ _ ne3).trans c3
        have c9 := (HSt.out 0).2.2.1.1
        rw [show ((pre ++ [x]).length : Nat) = pre.length + 1 from by simp] at c9
        have c9 : (W.setCell ⟨pC, 0, none⟩ (.int .i64 ((pre.length : Int) + 1))).cell? ⟨pC, 0, none⟩ = some (.int .i64 ((pre.length : Int) + 1)) := c9
        clear hck hV h3 ne3
        by_cases hge : stop ≤ (pre.length : Int) + 1
        · gi_wp2
          exact ⟨(HSt.out _).1, ⟨rfl, (HSt.out 0).2.2.1⟩, (HSt.out 0).2.2.2⟩
        · gi_wp2
          exact HSt.out _
      case end3 =>
        rintro D3 U hD3 ⟨z, hz, hP, hM⟩ hK
        have HM4 := Lib.hid (hM.more hK)
        have HBU := Lib.hid hM.1
        have hsU := hM.1.size
        obtain ⟨p1, r1⟩ := hP
        have c5 := pw_cell_below hM.1 H4.out.2.2.2.1
        have c6 := pw_cell_below hM.1 H4.out.2.1
        have f6 := (hM.1.frozen (p := ⟨w.heap.size + 1, 0, none⟩) (by show w.heap.size + 1 < _; omega)).trans H4.out.2.2.1
        clear hM hK
        go_wp2_with fail
        have B5 := Lib.hid ((Below.refl U.heap.size U).drew)
        have hs5' := B5.out.size
        have hu2 := HM4.out.2 D2 (by simp)
        have hu2 := (Array.getElem?_eq_some_iff.1 hu2).1
        have hu1 := (Array.getElem?_eq_some_iff.1 (HM4.out.2 D1 (by simp))).1
        have hu3 := (Array.getElem?_eq_some_iff.1 (HM4.out.2 D3 (by simp))).1
        have hpu := World.block_lt_of_cell? _ _ p1
        dsimp only at hpu
        have HKd : Hid (U.drew.cell? ⟨pC, 0, none⟩ = some (.int .i64 z) ∧ U.drew.cell? ⟨w2.heap.size, 0, none⟩ = some (.slice A2 n2 c2) ∧ U.drew.cell? ⟨w.heap.size + 1, 0, none⟩ = some (.bool false) ∧ U.drew.frozen? ⟨w.heap.size + 1, 0, none⟩ = false) := Lib.hid ⟨p1, c5, c6, f6⟩
        have HBW := Lib.hid (HBU.out.trans (B5.out.mono hsU))
        have HX5 := Lib.hid (H4.out.2.2.2.2.1.below HBW.out)
        go_region_held3 (fun W => W.cell? ⟨pC, 0, none⟩ = some (.int .i64 z) ∧ W.cell? ⟨w2.heap.size, 0, none⟩ = some (.slice A2 n2 c2)) (first | assumption | exact ⟨by assumption, by assumption⟩) (first | (go_at_call 16; refine (all_any _ _ _ xs _ (HR4.out.below HBW.out) (by omega) (HT4.out.below HBW.out)).mono ?_; rintro e w6 ⟨A6, n6, c6, cells6, rfl, hov, hrw, hb⟩; have hl6 := hov.len; rw [hrw.len, pays_len] at hl6; have HG6 := Lib.hid (OwV.rd hov hrw.of (by omega)); have HX6 := Lib.hid (HX5.out.below hb); have B6 := Lib.hid (B5.out.trans (hb.mono hs5')); have hs6 := B6.out.size; have z1 := pw_cell_below hb HKd.out.1; have z2 := pw_cell_below hb HKd.out.2.1; have z3 := pw_cell_below hb HKd.out.2.2.1; have z4 := (hb.frozen (p := ⟨w.heap.size + 1, 0, none⟩) (by show w.heap.size + 1 < _; omega)).trans HKd.out.2.2.2; clear hov hrw hb hl6) | (go_at_call 15; refine (alike_any _ _ _ _ _ _ _ _ _ HG6.out HX6.out).mono ?_; rintro e w7 ⟨rfl, ⟨q7, rfl⟩⟩; rw [eqLL_self]; have B7 := Lib.hid (pw_below_drewN B6.out q7); have hs7 := B7.out.size; have hd7 := pw_below_drewN (Below.refl w6.heap.size w6) q7; have y1 := pw_cell_below hd7 z1; have y2 := pw_cell_below hd7 z2; have y3 := pw_cell_below hd7 z3; have y4 := (hd7.frozen (p := ⟨w.heap.size + 1, 0, none⟩) (by show w.heap.size + 1 < _; omega)).trans z4; clear hd7) | (go_at_call 17; refine (end_any _ _ _ xs _ (HR4.out.below (HBU.out.trans (B7.out.mono hsU))) (by omega) (HT4.out.below (HBU.out.trans (B7.out.mono hsU)))).mono ?_; rintro e w8 ⟨rfl, hb8⟩; have B8 := Lib.hid (B7.out.trans (hb8.mono hs7)); have x1 := pw_cell_below hb8 y1; have x2 := pw_cell_below hb8 y2; have x3 := pw_cell_below hb8 y3; have x4 := (hb8.frozen (p := ⟨w.heap.size + 1, 0, none⟩) (by show w.heap.size + 1 < _; omega)).trans y4; have v1 : (w8.setCell ⟨w.heap.size + 1, 0, none⟩ (.bool true)).cell? ⟨pC, 0, none⟩ = some (.int .i64 z) := (World.cell?_setCell_other _ _ _ _ (by intro e; injection e with e; omega)).trans x1; have v2 : (w8.setCell ⟨w.heap.size + 1, 0, none⟩ (.bool true)).cell? ⟨w2.heap.size, 0, none⟩ = some (.slice A2 n2 c2) := (World.cell?_setCell_other _ _ _ _ (by intro e; injection e with e; omega)).trans x2; clear hb8))
        have hz8 := (B8.out).size
        have hx2 := HD3.out D2 (by simp)
        have hx1 := HD3.out D1 (by simp)
        have hx0 := HD2.out D1 (by simp)
        go_wp2
        refine leavesAll w.heap.size [D3, D2, D1] _ (by simp; omega) (by simp; omega) (fun D hD => ?_) (fun w' hcl hbl => ?_)
        · have hDm := HM4.out.2 D hD
          have hDl := (Array.getElem?_eq_some_iff.1 hDm).1
          have hne : w.heap.size + 1 < D := by
            simp only [List.mem_cons, List.not_mem_nil, or_false] at hD
            rcases hD with rfl | rfl | rfl <;> omega
          rw [Below.heap_setCell _ _ _ _ (show D ≠ w.heap.size + 1 by omega), B8.out.block D hDl]
          exact hDm
        · have hc5 := hcl (w.heap.size + 1) _ (World.cell?_setCell_same' w8 ⟨w.heap.size + 1, 0, none⟩ (.bool true) (by rw [x3]; rfl))
          refine ⟨.bool true, ?_, rfl, ((H4.out.2.2.2.2.2.2.trans ((HBU.out.trans (B8.out.mono hsU)).mono (by omega))).setCell (p := ⟨w.heap.size + 1, 0, none⟩) (show w.heap.size ≤ w.heap.size + 1 by omega) _).trans hbl⟩
          simp [results, Tryd.f4, go_sem, hc5]
end Go.Proofs.YtjebmlfcdnpepaaDoor.framel2
