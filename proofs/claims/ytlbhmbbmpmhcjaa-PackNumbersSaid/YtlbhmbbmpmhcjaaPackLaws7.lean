/- The walk of the law PackNumbers. -/
import Derived.Test.YtlbhmbbmpmhcjaaNumsMem
import Derived.Sort.CutIn
set_option linter.unusedVariables false
set_option linter.unusedSimpArgs false
namespace Go.Proofs.Ytlbhmbbmpmhcjaa.packl7
open Go.RowKit Go.Shelf Go.Proofs.YtlbhmbbmpmhcjaaW.PrintWords Go.Proofs.Ytlbhmbbmpmhcjaa.base Go.Proofs.Ytlbhmbbmpmhcjaa.mem Go.Proofs.Ytlbhmbbmpmhcjaa.packp Go.Proofs.Ytlbhmbbmpmhcjaa.packw Go.Proofs.Ytlbhmbbmpmhcjaa.samew Go.Proofs.Ytlbhmbbmpmhcjaa.keep Go.Proofs.Ytlbhmbbmpmhcjaa.numsp Go.Proofs.Ytlbhmbbmpmhcjaa.numsw Go.Proofs.Ytlbhmbbmpmhcjaa.numsm
attribute [local go_sem] Oper.semAt_some

theorem overNums {Q : Exit → Act → World → Prop} {g : Operand} {ps : Array Tmp} {assign body : Code} {a : Act} {W0 : World} {Bs lo hi : Nat} {xs : List Int}
    (hg : a.eval g = .func (.func 29) #[] #[.pointer (some ⟨Bs, 0, none⟩)]) (hN : NumsAt lo hi W0 Bs xs) (hhi : hi ≤ W0.heap.size) (hps : 2 = ps.size)
    (I : List (Nat × Int) → World → Prop) (Ix : Code → List (Nat × Int) → World → Prop) (hI : OwnFrom W0.heap.size I) (hIx : ∀ c, OwnFrom W0.heap.size (Ix c)) (h0 : I [] W0) (J : World → Prop) (id : Nat) (a₁ : Nat × Int → Act)
    (hassign : ∀ (l : Nat) (x : Nat × Int) (W : World) (K : Act → World → Prop), K (a₁ x) W →
      assign.wpIn (Fence.wide.inRound l) (6 - 1 - 1) Try.prog (Exit.then K (fun _ _ _ => False)) { tmps := (ps.zip (encs x)).foldl (fun t (p, v) => t.setIfInBounds p v) a.tmps, defers := [] } W)
    (hbody : ∀ (l : Nat) (pre : List (Nat × Int)) (x : Nat × Int) (W : World), I pre W → pre.length < (numsp.nums xs).length → body.wpIn (Fence.wide.inRound l) (6 - 1 - 1) Try.prog (ownPostG W0.heap.size (Band lo hi) I Ix (pre ++ [x]) W) (a₁ x) W)
    (hS : ∀ W, I (numsp.nums xs) W → J W) (hSp : ∀ c pre W, pre <+: numsp.nums xs → Ix c pre W → c = .exit id ∧ J W ∧ ∀ a w, Q .normal a w → Q (.exit id) a w)
    (hend : ∀ (D : Nat) (W : World), W0.heap.size ≤ D → J W → W.heap[D]? = some (.deferred (some [])) → Q .normal { a with defers := { target := .collected D, args := #[] } :: a.defers } W) :
    (Code.rangeFunc g ps assign body).wpIn Fence.wide 6 Try.prog Q a W0 := by
  refine wpIn_rangeFunc_ownG rfl (by decide) (gf := 29) (lb := #[.pointer (some ⟨Bs, 0, none⟩)]) hg trivial (enters_of Try.func29 (by kernel_rfl) rfl) (all_stops (6 - 1) (by decide) Bs lo hi xs W0 hhi hN) (fun h k => bandTrans h k) (band_put hhi) (Below.refl _ _) (fun _ => hps) I Ix hI hIx h0 a₁ hassign hbody ?_ ?_
  · rintro D ys W hD rfl hi hK
    exact hend D W hD (hS W hi) hK
  · rintro D c pre W hD hp hx hK
    obtain ⟨rfl, hJ, hq⟩ := hSp c pre W hp hx
    exact wpIn_exit (hq _ _ (hend D W hD hJ hK))
theorem nilSeqIn (d f : Nat) (e : Array Value) (W : World) : (Op.equalIn (d + 1) 36 (.func (.func f) #[] e) .nilFunc).run Try.prog W = .ok false W := by
  simp [Op.equalIn, run_underlying Try.underlying36]
theorem nilSeqEq (f : Nat) (e : Array Value) (W : World) : (Op.equal 36 (.func (.func f) #[] e) .nilFunc).run Try.prog W = .ok false W := nilSeqIn 9999 f e W
theorem nilSeq (f : Nat) (e : Array Value) (W : World) : (binOp .eql 36 (.func (.func f) #[] e) .nilFunc).run Try.prog W = .ok (.bool false) W := by
  simp only [binOp]
  simp [nilSeqEq]
theorem three (w : World) (a b c : Value) (t1 t2 t3 : TypeId) :
    (((w.alloc (.cells #[a] t1)).alloc (.cells #[b] t2)).alloc (.cells #[c] t3)).cell? ⟨w.heap.size, 0, none⟩ = some a ∧ (((w.alloc (.cells #[a] t1)).alloc (.cells #[b] t2)).alloc (.cells #[c] t3)).cell? ⟨w.heap.size + 1, 0, none⟩ = some b ∧ (((w.alloc (.cells #[a] t1)).alloc (.cells #[b] t2)).alloc (.cells #[c] t3)).cell? ⟨w.heap.size + 1 + 1, 0, none⟩ = some c ∧ (((w.alloc (.cells #[a] t1)).alloc (.cells #[b] t2)).alloc (.cells #[c] t3)).frozen? ⟨w.heap.size + 1 + 1, 0, none⟩ = false ∧ (((w.alloc (.cells #[a] t1)).alloc (.cells #[b] t2)).alloc (.cells #[c] t3)).heap.size = w.heap.size + 1 + 1 + 1 := by
  refine ⟨?_, ?_, World.cell?_alloc_at _ _ _ _ (by simp), World.frozen?_alloc_at _ _ _ _ (by simp), by simp⟩
  · rw [World.cell?_alloc_past _ _ _ (by rw [World.size_alloc, World.size_alloc]; omega), World.cell?_alloc_past _ _ _ (by rw [World.size_alloc]; omega)]; simp
  · rw [World.cell?_alloc_past _ _ _ (by rw [World.size_alloc, World.size_alloc]; omega)]; simp
set_option maxHeartbeats 4000000 in
set_option maxRecDepth 100000 in
theorem numbersPos (A : Option Addr) (n c : Nat) (xs : List Int) (stop : Int) (w : World) (hr : RdB w A n xs) (hc : n ≤ c) (hn : n * 1 ≤ 140737488351232) (hst : -9223372036854775808 ≤ stop ∧ stop ≤ 9223372036854775807) (hpos : 0 < stop) :
    Calls Try.prog 7 #[.slice A n c, .int .i64 stop] w fun e w' => e = .returned (.bool true) ∧ Below w.heap.size w w' := by
  have HR := Lib.hid hr
  have hn' : n ≤ 140737488351232 := by omega
  clear hr hn
  have HB0 := Lib.hid (((below_alloc (Below.refl w.heap.size w) (.cells #[.slice A n c] 22)).alloc (by simp) (.cells #[.int .i64 stop] 3)).alloc (by simp; omega) (.cells #[.bool false] 4))
  have hs0 := HB0.out.size
  refine (callsIn_wide (n := 6)).1 ?_
  refine callsIn_of_wp_marks Try.func7 rfl trivial ?_ rfl
  simp only [Try.ntmps7, List.size_toArray, List.length_cons, List.length_nil, Nat.reduceAdd, Nat.reduceSub, Array.replicate_succ, Array.replicate_zero, List.push_toArray, List.append_toArray, List.nil_append, List.cons_append]
  refine wpIn_wide.2 ?_
  go_wp2_with fail
  refine (wakes_any _).mono ?_
  rintro e w1 ⟨rfl, hb⟩
  obtain ⟨t2, t3, t4, tf, tz⟩ := three w (.slice A n c) (.int .i64 stop) (.bool false) 22 3 4
  have c2 := pw_cell_below hb t2
  have c3 := pw_cell_below hb t3
  have c4 := pw_cell_below hb t4
  have f4 : w1.frozen? ⟨w.heap.size + 1 + 1, 0, none⟩ = false := (hb.frozen (p := ⟨w.heap.size + 1 + 1, 0, none⟩) (by rw [tz]; show w.heap.size + 1 + 1 < _; omega)).trans tf
  clear t2 t3 t4 tf tz
  have HB1 := Lib.hid (HB0.out.trans (hb.mono hs0))
  have hs1 := HB1.out.size
  have HR1 := Lib.hid (HR.out.below HB1.out)
  have hlt4 := World.block_lt_of_cell? _ _ c4
  dsimp only at hlt4
  clear hb
  go_wp2_with fail
  refine (numbers_any _ _ _ xs _ HR1.out (by omega)).mono ?_
  rintro e w2 ⟨Bs, rfl, hN, hb⟩
  have HM2 : Hid (NM w.heap.size w1.heap.size w2.heap.size Bs (.slice A n c) stop xs [] w w2) := Lib.hid ⟨pw_cell_below hb c2, pw_cell_below hb c3, pw_cell_below hb c4, (hb.frozen (p := ⟨w.heap.size + 1 + 1, 0, none⟩) hlt4).trans f4, hN, Nat.le_refl _, HB1.out.trans (hb.mono hs1), by simp⟩
  have hs2 := hb.size
  clear hb hN c2 c3 c4 f4 HR1
  have hns := nilSeq
  have HM1 := HM2
  clear HM2
  go_wp2
  refine wp_loop_rounds 3 ?_
  have PA1 := Lib.hid (PC.new w2 3 0)
  have HMA1 := Lib.hid (HM1.out.below (below_alloc (Below.refl w2.heap.size w2) (.cells #[.int .i64 0] 3)) (Nat.le_refl _))
  have hz1 : (w2.alloc (.cells #[.int .i64 0] 3)).heap.size = w2.heap.size + 1 := by simp
  have hhx1 : w2.heap.size ≤ w2.heap.size := HM1.out.2.2.2.2.2.1
  have hd1 : ∀ D ∈ ([] : List Nat), D < w2.heap.size := fun D hD => (Array.getElem?_eq_some_iff.1 (HM1.out.2.2.2.2.2.2.2 D hD)).1
  have HD1 := Lib.hid hd1
  clear hd1
  rw [rounds_succ]
  go_wp2
  refine (wpIn_wide (n := 6)).1 ?_
  generalize w2.alloc (.cells #[.int .i64 0] 3) = WA1 at PA1 HMA1 hz1 ⊢
  generalize hpa1 : w2.heap.size = pA1 at PA1 hz1 HD1 ⊢
  have hh1 : w2.heap.size ≤ pA1 := by omega
  have hpal1 := Nat.le_of_eq hpa1
  have hpag1 := Nat.le_of_eq hpa1.symm
  clear hpa1
  refine' overNums rfl HMA1.out.2.2.2.2.1 HMA1.out.2.2.2.2.2.1 rfl
    (fun pre W => (∃ q f, q ≤ n ∧ n - q ≤ f ∧ pre ++ items f q (xs.drop q) = numsp.nums xs ∧ PC pA1 (q : Nat) W) ∧ NM w.heap.size w1.heap.size w2.heap.size Bs (.slice A n c) stop xs [] w W)
    (fun cc pre W => cc = .ret ∧ ¬ pre <+: numsp.nums xs)
    (fun z W W' row hs hg hr => ⟨by obtain ⟨⟨q, f, h1, h2, h3, h4⟩, _⟩ := hs; exact ⟨q, f, h1, h2, h3, h4.own hg (fun r e => (hr r e).2)⟩, hs.2.own hg hr (by omega) (Nat.le_refl _) (by omega) (fun D hD => by have := HD1.out D hD; omega)⟩)
    (fun cc => ownFrom_pure _ (fun pre => cc = .ret ∧ ¬ pre <+: numsp.nums xs))
    ⟨⟨0, n, by omega, by omega, by rw [List.nil_append, List.drop_zero]; unfold numsp.nums; rw [HR.out.len], PA1.out⟩, HMA1.out⟩
    (fun W => ∃ q, q ≤ n ∧ (dec 0 (xs.drop q)).2 = 0 ∧ PC pA1 (q : Nat) W ∧ NM w.heap.size w1.heap.size w2.heap.size Bs (.slice A n c) stop xs [] w W) 0 _ ?assign1a ?body1a ?s1a ?p1a ?end1a
  case assign1a =>
    intro l x W K hK
    gi_wp2
    exact hK
  case s1a =>
    rintro W ⟨⟨q, f, h1, h2, h3, h4⟩, h5⟩
    refine ⟨q, h1, items_nil (f := f) (p := q) ?_ (by rw [List.length_drop, HR.out.len]; exact h2), h4, h5⟩
    simpa using h3
  case p1a =>
    rintro cc pre W hp ⟨_, hno⟩
    exact absurd hp hno
  case body1a =>
    rintro l pre ⟨xp, xv⟩ W ⟨⟨q, f, hq, hf, hE, hP⟩, hM⟩ hlt
    have hne : (dec 0 (xs.drop q)).2 ≠ 0 := by
      intro h0
      rw [items_end _ _ _ h0, List.append_nil] at hE
      rw [← hE] at hlt
      exact Nat.lt_irrefl _ hlt
    have hd := dec_len (xs.drop q) (HR.out.2.drop q)
    rw [List.length_drop, HR.out.len] at hd
    obtain ⟨f', rfl⟩ : ∃ f', f = f' + 1 := ⟨f - 1, by omega⟩
    rw [items_next _ _ _ hne, List.drop_drop] at hE
    obtain ⟨A7, n7, c7, hcut, hm1, hm2, hm3, hrd⟩ := cutL A n c q hq hc
    have HT := Lib.hid (reftake_any A7 n7 c7 (xs.drop q) W (hrd _ _ (HR.out.below hM.2.2.2.2.2.2.1)))
    clear hrd
    generalize (dec 0 (xs.drop q)).1 = v at HT hE
    generalize (dec 0 (xs.drop q)).2 = k at HT hE hd hne
    have hy : (numsp.nums xs)[pre.length]? = some (q, v) := by rw [← hE]; simp
    have HY := Lib.hid hy
    have HE := Lib.hid hE
    have HM := Lib.hid hM
    have HP := Lib.hid hP
    have hsz := hM.2.2.2.2.2.1
    obtain ⟨a2, a3, a4, a4f, _⟩ := hM
    obtain ⟨p7, r7⟩ := hP
    have hkb : ((k : Int) == 0) = false := beq_eq_false_iff_ne.2 (by omega)
    clear hy hE hlt
    by_cases hx : xp = q ∧ xv = v
    · obtain ⟨rfl, rfl⟩ := hx
      gi_wp2_with (refine ⟨trivial, ?_⟩; gi_at_call 13; refine (CallsIn.inRound l (callsIn_wide.2 HT.out)).mono ?_; rintro e w' ⟨rfl, rfl⟩)
      refine ⟨keepsFrom_set _ _, (Band.refl hsz).set (.inr hh1) _ _, ⟨xp + k, f', by omega, by omega, by rw [← HE.out]; simp, ?_⟩, HM.out.set hh1 (by omega) (fun D hD => by have := HD1.out D hD; omega) _⟩
      have := HP.out.set ((xp + k : Nat) : Int)
      rwa [Int.natCast_add] at this ⊢
    · have hno : ¬ pre ++ [(xp, xv)] <+: numsp.nums xs := by
        intro hpp
        have := prefix_is hpp HY.out
        injection this with e1 e2
        exact hx ⟨e1, e2⟩
      have HNo := Lib.hid hno
      clear hno
      by_cases hxa : xp = q
      · have hxv : ¬ xv = v := fun e => hx ⟨hxa, e⟩
        have hxb : (xv != v) = true := by simpa using hxv
        subst hxa
        gi_wp2_with (refine ⟨trivial, ?_⟩; gi_at_call 13; refine (CallsIn.inRound l (callsIn_wide.2 HT.out)).mono ?_; rintro e w' ⟨rfl, rfl⟩)
        exact ⟨keepsFrom_set _ _, rfl, HNo.out⟩
      · have hxb : ((xp : Int) != (q : Int)) = true := by rw [bne_iff_ne]; omega
        gi_wp2_with (refine ⟨trivial, ?_⟩; gi_at_call 13; refine (CallsIn.inRound l (callsIn_wide.2 HT.out)).mono ?_; rintro e w' ⟨rfl, rfl⟩)
        exact ⟨keepsFrom_set _ _, rfl, HNo.out⟩
  case end1a =>
    rintro D1a V1 hDa1 ⟨q, hq, h0, hP, hM⟩ hK
    have hoa1 : pA1 < D1a := by omega
    have HN1 := Lib.hid (hM.more hK)
    obtain ⟨p7, _⟩ := hP
    obtain ⟨a2, a3, a4, a4f, _, hsz, hBV, _⟩ := hM
    obtain ⟨A7, n7, c7, hcut, hm1, hm2, hm3, hrd⟩ := cutL A n c q hq hc
    have HT := Lib.hid (reftake_any A7 n7 c7 (xs.drop q) V1 (hrd _ _ (HR.out.below hBV)))
    rw [h0] at HT
    clear hrd h0 hBV
    generalize (dec 0 (xs.drop q)).1 = v at HT
    have PB1 := Lib.hid (PC.new V1 3 0)
    have HMB1 := Lib.hid (HN1.out.below (below_alloc (Below.refl V1.heap.size V1) (.cells #[.int .i64 0] 3)) (Nat.le_refl _))
    have hzb1 : (V1.alloc (.cells #[.int .i64 0] 3)).heap.size = V1.heap.size + 1 := by simp
    have hdb1 : ∀ D ∈ ([D1a] : List Nat), D < V1.heap.size := fun D hD => (Array.getElem?_eq_some_iff.1 (HN1.out.2.2.2.2.2.2.2 D hD)).1
    have HDB1 := Lib.hid hdb1
    clear hdb1 hK
    go_wp2_with (go_at_call 13; refine HT.out.mono ?_; rintro e w' ⟨rfl, rfl⟩)
    refine (wpIn_wide (n := 6)).1 ?_
    clear a2 a3 a4 a4f p7 hcut hm1 hm2 hm3 HT
    generalize V1.alloc (.cells #[.int .i64 0] 3) = WB1 at PB1 HMB1 hzb1 ⊢
    generalize hpb1 : V1.heap.size = pB1 at PB1 hzb1 hsz HDB1 ⊢
    have hpbl1 := Nat.le_of_eq hpb1
    have hpbg1 := Nat.le_of_eq hpb1.symm
    clear hpb1
    refine' overNums rfl HMB1.out.2.2.2.2.1 HMB1.out.2.2.2.2.2.1 rfl
      (fun pre W => (((pre.length : Int) < stop ∨ pre.length = 0) ∧ PC pB1 (pre.length : Nat) W) ∧ NM w.heap.size w1.heap.size w2.heap.size Bs (.slice A n c) stop xs [D1a] w W)
      (fun cc pre W => (cc = .exit 4 ∧ ((pre.length : Int) ≤ stop ∨ pre.length ≤ 1) ∧ PC pB1 (pre.length : Nat) W) ∧ NM w.heap.size w1.heap.size w2.heap.size Bs (.slice A n c) stop xs [D1a] w W)
      (fun z W W' row hs hg hr => ⟨⟨hs.1.1, hs.1.2.own hg (fun r e => (hr r e).2)⟩, hs.2.own hg hr (by omega) (Nat.le_refl _) (by omega) (fun D hD => by have := HDB1.out D hD; omega)⟩)
      (fun cc z W W' row hs hg hr => ⟨⟨hs.1.1, hs.1.2.1, hs.1.2.2.own hg (fun r e => (hr r e).2)⟩, hs.2.own hg hr (by omega) (Nat.le_refl _) (by omega) (fun D hD => by have := HDB1.out D hD; omega)⟩)
      ⟨⟨.inr rfl, PB1.out⟩, HMB1.out⟩
      (fun W => ∃ z : Nat, ((z : Int) ≤ stop ∨ z ≤ 1) ∧ PC pB1 (z : Nat) W ∧ NM w.heap.size w1.heap.size w2.heap.size Bs (.slice A n c) stop xs [D1a] w W) 4 _ ?assign1b ?body1b ?s1b ?p1b ?end1b
    case assign1b =>
      intro l x W K hK
      gi_wp2
      exact hK
    case s1b =>
      rintro W ⟨⟨h1, h2⟩, h3⟩
      exact ⟨_, by omega, h2, h3⟩
    case p1b =>
      rintro cc pre W hp ⟨⟨rfl, h1, h2⟩, h3⟩
      exact ⟨rfl, ⟨_, h1, h2, h3⟩, fun a w h => h⟩
    case body1b =>
      rintro l pre x W ⟨⟨hs, hP⟩, hM⟩ hlt
      have hln : pre.length < n := Nat.lt_of_lt_of_le hlt (by unfold numsp.nums; have := items_len xs.length 0 xs; rw [HR.out.len] at this ⊢; exact this)
      have HM := Lib.hid hM
      have HP := Lib.hid hP
      have hszW := hM.2.2.2.2.2.1
      have hpl : (pre ++ [x]).length = pre.length + 1 := by simp
      have HPL := Lib.hid hpl
      have hwh : w2.heap.size ≤ pB1 := by omega
      obtain ⟨a2, a3, a4, a4f, _⟩ := hM
      obtain ⟨p7, r7⟩ := hP
      have hPS : PC pB1 ((pre ++ [x]).length : Nat) (W.setCell ⟨pB1, 0, none⟩ (.int .i64 ((pre.length : Int) + 1))) := by rw [hpl]; exact HP.out.set _
      have HPS := Lib.hid hPS
      have HMS := Lib.hid (HM.out.set (p := pB1) hwh (by omega) (fun D hD => by have := HDB1.out D hD; omega) (.int .i64 ((pre.length : Int) + 1)))
      have p8 := (HP.out.set ((pre.length : Int) + 1)).1
      have ne3 : (⟨pB1, 0, none⟩ : Addr) ≠ ⟨w.heap.size + 1, 0, none⟩ := by intro e; injection e with e; omega
      have a8 : (W.setCell ⟨pB1, 0, none⟩ (.int .i64 ((pre.length : Int) + 1))).cell? ⟨w.heap.size + 1, 0, none⟩ = some (.int .i64 stop) := (World.cell?_setCell_other _ _ _ _ ne3).trans a3
      clear hpl hPS ne3 hlt
      by_cases hge : stop ≤ (pre.length : Int) + 1
      · gi_wp2
        exact ⟨keepsFrom_set _ _, ⟨rfl, by rw [HPL.out]; omega, HPS.out⟩, HMS.out⟩
      · gi_wp2
        exact ⟨keepsFrom_set _ _, (Band.refl hszW).set (.inr hwh) _ _, ⟨by rw [HPL.out]; omega, HPS.out⟩, HMS.out⟩
    case end1b =>
      rintro D1b U1 hDb1 ⟨z, hz, hP, hM⟩ hK
      have hob1 : D1a < D1b := by have := HDB1.out D1a (by simp); omega
      have HM2 := Lib.hid (hM.more hK)
      obtain ⟨p7, _⟩ := hP
      obtain ⟨a2, a3, a4, a4f, _⟩ := hM
      have hs24 : 0 < stop → ¬ stop < (z : Int) := by omega
      have hs25 := hs24 hpos
      go_wp2
      have PA2 := Lib.hid (PC.new U1 3 0)
      have HMA2 := Lib.hid (HM2.out.below (below_alloc (Below.refl U1.heap.size U1) (.cells #[.int .i64 0] 3)) (Nat.le_refl _))
      have hz2 : (U1.alloc (.cells #[.int .i64 0] 3)).heap.size = U1.heap.size + 1 := by simp
      have hhx2 : w2.heap.size ≤ U1.heap.size := HM2.out.2.2.2.2.2.1
      have hd2 : ∀ D ∈ ([D1b, D1a] : List Nat), D < U1.heap.size := fun D hD => (Array.getElem?_eq_some_iff.1 (HM2.out.2.2.2.2.2.2.2 D hD)).1
      have HD2 := Lib.hid hd2
      clear hd2
      rw [rounds_succ]
      go_wp2
      refine (wpIn_wide (n := 6)).1 ?_
      generalize U1.alloc (.cells #[.int .i64 0] 3) = WA2 at PA2 HMA2 hz2 ⊢
      generalize hpa2 : U1.heap.size = pA2 at PA2 hz2 HD2 ⊢
      have hh2 : w2.heap.size ≤ pA2 := by omega
      have hpal2 := Nat.le_of_eq hpa2
      have hpag2 := Nat.le_of_eq hpa2.symm
      clear hpa2
      refine' overNums rfl HMA2.out.2.2.2.2.1 HMA2.out.2.2.2.2.2.1 rfl
        (fun pre W => (∃ q f, q ≤ n ∧ n - q ≤ f ∧ pre ++ items f q (xs.drop q) = numsp.nums xs ∧ PC pA2 (q : Nat) W) ∧ NM w.heap.size w1.heap.size w2.heap.size Bs (.slice A n c) stop xs [D1b, D1a] w W)
        (fun cc pre W => cc = .ret ∧ ¬ pre <+: numsp.nums xs)
        (fun z W W' row hs hg hr => ⟨by obtain ⟨⟨q, f, h1, h2, h3, h4⟩, _⟩ := hs; exact ⟨q, f, h1, h2, h3, h4.own hg (fun r e => (hr r e).2)⟩, hs.2.own hg hr (by omega) (Nat.le_refl _) (by omega) (fun D hD => by have := HD2.out D hD; omega)⟩)
        (fun cc => ownFrom_pure _ (fun pre => cc = .ret ∧ ¬ pre <+: numsp.nums xs))
        ⟨⟨0, n, by omega, by omega, by rw [List.nil_append, List.drop_zero]; unfold numsp.nums; rw [HR.out.len], PA2.out⟩, HMA2.out⟩
        (fun W => ∃ q, q ≤ n ∧ (dec 0 (xs.drop q)).2 = 0 ∧ PC pA2 (q : Nat) W ∧ NM w.heap.size w1.heap.size w2.heap.size Bs (.slice A n c) stop xs [D1b, D1a] w W) 0 _ ?assign2a ?body2a ?s2a ?p2a ?end2a
      case assign2a =>
        intro l x W K hK
        gi_wp2
        exact hK
      case s2a =>
        rintro W ⟨⟨q, f, h1, h2, h3, h4⟩, h5⟩
        refine ⟨q, h1, items_nil (f := f) (p := q) ?_ (by rw [List.length_drop, HR.out.len]; exact h2), h4, h5⟩
        simpa using h3
      case p2a =>
        rintro cc pre W hp ⟨_, hno⟩
        exact absurd hp hno
      case body2a =>
        rintro l pre ⟨xp, xv⟩ W ⟨⟨q, f, hq, hf, hE, hP⟩, hM⟩ hlt
        have hne : (dec 0 (xs.drop q)).2 ≠ 0 := by
          intro h0
          rw [items_end _ _ _ h0, List.append_nil] at hE
          rw [← hE] at hlt
          exact Nat.lt_irrefl _ hlt
        have hd := dec_len (xs.drop q) (HR.out.2.drop q)
        rw [List.length_drop, HR.out.len] at hd
        obtain ⟨f', rfl⟩ : ∃ f', f = f' + 1 := ⟨f - 1, by omega⟩
        rw [items_next _ _ _ hne, List.drop_drop] at hE
        obtain ⟨A7, n7, c7, hcut, hm1, hm2, hm3, hrd⟩ := cutL A n c q hq hc
        have HT := Lib.hid (reftake_any A7 n7 c7 (xs.drop q) W (hrd _ _ (HR.out.below hM.2.2.2.2.2.2.1)))
        clear hrd
        generalize (dec 0 (xs.drop q)).1 = v at HT hE
        generalize (dec 0 (xs.drop q)).2 = k at HT hE hd hne
        have hy : (numsp.nums xs)[pre.length]? = some (q, v) := by rw [← hE]; simp
        have HY := Lib.hid hy
        have HE := Lib.hid hE
        have HM := Lib.hid hM
        have HP := Lib.hid hP
        have hsz := hM.2.2.2.2.2.1
        obtain ⟨a2, a3, a4, a4f, _⟩ := hM
        obtain ⟨p7, r7⟩ := hP
        have hkb : ((k : Int) == 0) = false := beq_eq_false_iff_ne.2 (by omega)
        clear hy hE hlt
        by_cases hx : xp = q ∧ xv = v
        · obtain ⟨rfl, rfl⟩ := hx
          gi_wp2_with (refine ⟨trivial, ?_⟩; gi_at_call 13; refine (CallsIn.inRound l (callsIn_wide.2 HT.out)).mono ?_; rintro e w' ⟨rfl, rfl⟩)
          refine ⟨keepsFrom_set _ _, (Band.refl hsz).set (.inr hh2) _ _, ⟨xp + k, f', by omega, by omega, by rw [← HE.out]; simp, ?_⟩, HM.out.set hh2 (by omega) (fun D hD => by have := HD2.out D hD; omega) _⟩
          have := HP.out.set ((xp + k : Nat) : Int)
          rwa [Int.natCast_add] at this ⊢
        · have hno : ¬ pre ++ [(xp, xv)] <+: numsp.nums xs := by
            intro hpp
            have := prefix_is hpp HY.out
            injection this with e1 e2
            exact hx ⟨e1, e2⟩
          have HNo := Lib.hid hno
          clear hno
          by_cases hxa : xp = q
          · have hxv : ¬ xv = v := fun e => hx ⟨hxa, e⟩
            have hxb : (xv != v) = true := by simpa using hxv
            subst hxa
            gi_wp2_with (refine ⟨trivial, ?_⟩; gi_at_call 13; refine (CallsIn.inRound l (callsIn_wide.2 HT.out)).mono ?_; rintro e w' ⟨rfl, rfl⟩)
            exact ⟨keepsFrom_set _ _, rfl, HNo.out⟩
          · have hxb : ((xp : Int) != (q : Int)) = true := by rw [bne_iff_ne]; omega
            gi_wp2_with (refine ⟨trivial, ?_⟩; gi_at_call 13; refine (CallsIn.inRound l (callsIn_wide.2 HT.out)).mono ?_; rintro e w' ⟨rfl, rfl⟩)
            exact ⟨keepsFrom_set _ _, rfl, HNo.out⟩
      case end2a =>
        rintro D2a V2 hDa2 ⟨q, hq, h0, hP, hM⟩ hK
        have hoa2 : pA2 < D2a := by omega
        have HN2 := Lib.hid (hM.more hK)
        obtain ⟨p7, _⟩ := hP
        obtain ⟨a2, a3, a4, a4f, _, hsz, hBV, _⟩ := hM
        obtain ⟨A7, n7, c7, hcut, hm1, hm2, hm3, hrd⟩ := cutL A n c q hq hc
        have HT := Lib.hid (reftake_any A7 n7 c7 (xs.drop q) V2 (hrd _ _ (HR.out.below hBV)))
        rw [h0] at HT
        clear hrd h0 hBV
        generalize (dec 0 (xs.drop q)).1 = v at HT
        have PB2 := Lib.hid (PC.new V2 3 0)
        have HMB2 := Lib.hid (HN2.out.below (below_alloc (Below.refl V2.heap.size V2) (.cells #[.int .i64 0] 3)) (Nat.le_refl _))
        have hzb2 : (V2.alloc (.cells #[.int .i64 0] 3)).heap.size = V2.heap.size + 1 := by simp
        have hdb2 : ∀ D ∈ ([D2a, D1b, D1a] : List Nat), D < V2.heap.size := fun D hD => (Array.getElem?_eq_some_iff.1 (HN2.out.2.2.2.2.2.2.2 D hD)).1
        have HDB2 := Lib.hid hdb2
        clear hdb2 hK
        go_wp2_with (go_at_call 13; refine HT.out.mono ?_; rintro e w' ⟨rfl, rfl⟩)
        refine (wpIn_wide (n := 6)).1 ?_
        clear a2 a3 a4 a4f p7 hcut hm1 hm2 hm3 HT
        generalize V2.alloc (.cells #[.int .i64 0] 3) = WB2 at PB2 HMB2 hzb2 ⊢
        generalize hpb2 : V2.heap.size = pB2 at PB2 hzb2 hsz HDB2 ⊢
        have hpbl2 := Nat.le_of_eq hpb2
        have hpbg2 := Nat.le_of_eq hpb2.symm
        clear hpb2
        refine' overNums rfl HMB2.out.2.2.2.2.1 HMB2.out.2.2.2.2.2.1 rfl
          (fun pre W => (((pre.length : Int) < stop ∨ pre.length = 0) ∧ PC pB2 (pre.length : Nat) W) ∧ NM w.heap.size w1.heap.size w2.heap.size Bs (.slice A n c) stop xs [D2a, D1b, D1a] w W)
          (fun cc pre W => (cc = .exit 4 ∧ ((pre.length : Int) ≤ stop ∨ pre.length ≤ 1) ∧ PC pB2 (pre.length : Nat) W) ∧ NM w.heap.size w1.heap.size w2.heap.size Bs (.slice A n c) stop xs [D2a, D1b, D1a] w W)
          (fun z W W' row hs hg hr => ⟨⟨hs.1.1, hs.1.2.own hg (fun r e => (hr r e).2)⟩, hs.2.own hg hr (by omega) (Nat.le_refl _) (by omega) (fun D hD => by have := HDB2.out D hD; omega)⟩)
          (fun cc z W W' row hs hg hr => ⟨⟨hs.1.1, hs.1.2.1, hs.1.2.2.own hg (fun r e => (hr r e).2)⟩, hs.2.own hg hr (by omega) (Nat.le_refl _) (by omega) (fun D hD => by have := HDB2.out D hD; omega)⟩)
          ⟨⟨.inr rfl, PB2.out⟩, HMB2.out⟩
          (fun W => ∃ z : Nat, ((z : Int) ≤ stop ∨ z ≤ 1) ∧ PC pB2 (z : Nat) W ∧ NM w.heap.size w1.heap.size w2.heap.size Bs (.slice A n c) stop xs [D2a, D1b, D1a] w W) 4 _ ?assign2b ?body2b ?s2b ?p2b ?end2b
        case assign2b =>
          intro l x W K hK
          gi_wp2
          exact hK
        case s2b =>
          rintro W ⟨⟨h1, h2⟩, h3⟩
          exact ⟨_, by omega, h2, h3⟩
        case p2b =>
          rintro cc pre W hp ⟨⟨rfl, h1, h2⟩, h3⟩
          exact ⟨rfl, ⟨_, h1, h2, h3⟩, fun a w h => h⟩
        case body2b =>
          rintro l pre x W ⟨⟨hs, hP⟩, hM⟩ hlt
          have hln : pre.length < n := Nat.lt_of_lt_of_le hlt (by unfold numsp.nums; have := items_len xs.length 0 xs; rw [HR.out.len] at this ⊢; exact this)
          have HM := Lib.hid hM
          have HP := Lib.hid hP
          have hszW := hM.2.2.2.2.2.1
          have hpl : (pre ++ [x]).length = pre.length + 1 := by simp
          have HPL := Lib.hid hpl
          have hwh : w2.heap.size ≤ pB2 := by omega
          obtain ⟨a2, a3, a4, a4f, _⟩ := hM
          obtain ⟨p7, r7⟩ := hP
          have hPS : PC pB2 ((pre ++ [x]).length : Nat) (W.setCell ⟨pB2, 0, none⟩ (.int .i64 ((pre.length : Int) + 1))) := by rw [hpl]; exact HP.out.set _
          have HPS := Lib.hid hPS
          have HMS := Lib.hid (HM.out.set (p := pB2) hwh (by omega) (fun D hD => by have := HDB2.out D hD; omega) (.int .i64 ((pre.length : Int) + 1)))
          have p8 := (HP.out.set ((pre.length : Int) + 1)).1
          have ne3 : (⟨pB2, 0, none⟩ : Addr) ≠ ⟨w.heap.size + 1, 0, none⟩ := by intro e; injection e with e; omega
          have a8 : (W.setCell ⟨pB2, 0, none⟩ (.int .i64 ((pre.length : Int) + 1))).cell? ⟨w.heap.size + 1, 0, none⟩ = some (.int .i64 stop) := (World.cell?_setCell_other _ _ _ _ ne3).trans a3
          clear hpl hPS ne3 hlt
          by_cases hge : stop ≤ (pre.length : Int) + 1
          · gi_wp2
            exact ⟨keepsFrom_set _ _, ⟨rfl, by rw [HPL.out]; omega, HPS.out⟩, HMS.out⟩
          · gi_wp2
            exact ⟨keepsFrom_set _ _, (Band.refl hszW).set (.inr hwh) _ _, ⟨by rw [HPL.out]; omega, HPS.out⟩, HMS.out⟩
        case end2b =>
          rintro D2b U2 hDb2 ⟨z, hz, hP, hM⟩ hK
          have hob2 : D2a < D2b := by have := HDB2.out D2a (by simp); omega
          have HM3 := Lib.hid (hM.more hK)
          obtain ⟨p7, _⟩ := hP
          obtain ⟨a2, a3, a4, a4f, _⟩ := hM
          have hs24 : 0 < stop → ¬ stop < (z : Int) := by omega
          have hs25 := hs24 hpos
          go_wp2
          have hq3 := HM3.out
          obtain ⟨a2, a3, a4, a4f, aN, aS, aB, aD⟩ := hq3
          have d1 := (Array.getElem?_eq_some_iff.1 (aD D1a (by simp))).1
          rw [rounds_succ]
          go_wp2
          have hx1 := HD2.out D1b (by simp)
          refine leavesAll w.heap.size [D2b, D2a, D1b, D1a] _ (by simp; omega) (by simp; omega) (fun D hD => ?_) (fun w' hcl hbl => ?_)
          · have hDm := aD D hD
            have hne : w.heap.size + 1 + 1 < D := by
              simp only [List.mem_cons, List.not_mem_nil, or_false] at hD
              rcases hD with rfl | rfl | rfl | rfl <;> omega
            rw [Below.heap_setCell _ _ _ _ (show D ≠ w.heap.size + 1 + 1 by omega)]
            exact hDm
          · have hc5 := hcl (w.heap.size + 1 + 1) _ (World.cell?_setCell_same' U2 ⟨w.heap.size + 1 + 1, 0, none⟩ (.bool true) (by rw [a4]; rfl))
            refine ⟨.bool true, ?_, rfl, (aB.setCell (p := ⟨w.heap.size + 1 + 1, 0, none⟩) (show w.heap.size ≤ w.heap.size + 1 + 1 by omega) _).trans hbl⟩
            simp [results, Try.f7, go_sem, hc5]
set_option maxHeartbeats 4000000 in
set_option maxRecDepth 100000 in
theorem numbersNeg (A : Option Addr) (n c : Nat) (xs : List Int) (stop : Int) (w : World) (hr : RdB w A n xs) (hc : n ≤ c) (hn : n * 1 ≤ 140737488351232) (hst : -9223372036854775808 ≤ stop ∧ stop ≤ 9223372036854775807) (hpos : stop ≤ 0) :
    Calls Try.prog 7 #[.slice A n c, .int .i64 stop] w fun e w' => e = .returned (.bool true) ∧ Below w.heap.size w w' := by
  have HR := Lib.hid hr
  have hn' : n ≤ 140737488351232 := by omega
  clear hr hn
  have HB0 := Lib.hid (((below_alloc (Below.refl w.heap.size w) (.cells #[.slice A n c] 22)).alloc (by simp) (.cells #[.int .i64 stop] 3)).alloc (by simp; omega) (.cells #[.bool false] 4))
  have hs0 := HB0.out.size
  refine (callsIn_wide (n := 6)).1 ?_
  refine callsIn_of_wp_marks Try.func7 rfl trivial ?_ rfl
  simp only [Try.ntmps7, List.size_toArray, List.length_cons, List.length_nil, Nat.reduceAdd, Nat.reduceSub, Array.replicate_succ, Array.replicate_zero, List.push_toArray, List.append_toArray, List.nil_append, List.cons_append]
  refine wpIn_wide.2 ?_
  go_wp2_with fail
  refine (wakes_any _).mono ?_
  rintro e w1 ⟨rfl, hb⟩
  obtain ⟨t2, t3, t4, tf, tz⟩ := three w (.slice A n c) (.int .i64 stop) (.bool false) 22 3 4
  have c2 := pw_cell_below hb t2
  have c3 := pw_cell_below hb t3
  have c4 := pw_cell_below hb t4
  have f4 : w1.frozen? ⟨w.heap.size + 1 + 1, 0, none⟩ = false := (hb.frozen (p := ⟨w.heap.size + 1 + 1, 0, none⟩) (by rw [tz]; show w.heap.size + 1 + 1 < _; omega)).trans tf
  clear t2 t3 t4 tf tz
  have HB1 := Lib.hid (HB0.out.trans (hb.mono hs0))
  have hs1 := HB1.out.size
  have HR1 := Lib.hid (HR.out.below HB1.out)
  have hlt4 := World.block_lt_of_cell? _ _ c4
  dsimp only at hlt4
  clear hb
  go_wp2_with fail
  refine (numbers_any _ _ _ xs _ HR1.out (by omega)).mono ?_
  rintro e w2 ⟨Bs, rfl, hN, hb⟩
  have HM2 : Hid (NM w.heap.size w1.heap.size w2.heap.size Bs (.slice A n c) stop xs [] w w2) := Lib.hid ⟨pw_cell_below hb c2, pw_cell_below hb c3, pw_cell_below hb c4, (hb.frozen (p := ⟨w.heap.size + 1 + 1, 0, none⟩) hlt4).trans f4, hN, Nat.le_refl _, HB1.out.trans (hb.mono hs1), by simp⟩
  have hs2 := hb.size
  clear hb hN c2 c3 c4 f4 HR1
  have hns := nilSeq
  have HM1 := HM2
  clear HM2
  go_wp2
  refine wp_loop_rounds 3 ?_
  have PA1 := Lib.hid (PC.new w2 3 0)
  have HMA1 := Lib.hid (HM1.out.below (below_alloc (Below.refl w2.heap.size w2) (.cells #[.int .i64 0] 3)) (Nat.le_refl _))
  have hz1 : (w2.alloc (.cells #[.int .i64 0] 3)).heap.size = w2.heap.size + 1 := by simp
  have hhx1 : w2.heap.size ≤ w2.heap.size := HM1.out.2.2.2.2.2.1
  have hd1 : ∀ D ∈ ([] : List Nat), D < w2.heap.size := fun D hD => (Array.getElem?_eq_some_iff.1 (HM1.out.2.2.2.2.2.2.2 D hD)).1
  have HD1 := Lib.hid hd1
  clear hd1
  rw [rounds_succ]
  go_wp2
  refine (wpIn_wide (n := 6)).1 ?_
  generalize w2.alloc (.cells #[.int .i64 0] 3) = WA1 at PA1 HMA1 hz1 ⊢
  generalize hpa1 : w2.heap.size = pA1 at PA1 hz1 HD1 ⊢
  have hh1 : w2.heap.size ≤ pA1 := by omega
  have hpal1 := Nat.le_of_eq hpa1
  have hpag1 := Nat.le_of_eq hpa1.symm
  clear hpa1
  refine' overNums rfl HMA1.out.2.2.2.2.1 HMA1.out.2.2.2.2.2.1 rfl
    (fun pre W => (∃ q f, q ≤ n ∧ n - q ≤ f ∧ pre ++ items f q (xs.drop q) = numsp.nums xs ∧ PC pA1 (q : Nat) W) ∧ NM w.heap.size w1.heap.size w2.heap.size Bs (.slice A n c) stop xs [] w W)
    (fun cc pre W => cc = .ret ∧ ¬ pre <+: numsp.nums xs)
    (fun z W W' row hs hg hr => ⟨by obtain ⟨⟨q, f, h1, h2, h3, h4⟩, _⟩ := hs; exact ⟨q, f, h1, h2, h3, h4.own hg (fun r e => (hr r e).2)⟩, hs.2.own hg hr (by omega) (Nat.le_refl _) (by omega) (fun D hD => by have := HD1.out D hD; omega)⟩)
    (fun cc => ownFrom_pure _ (fun pre => cc = .ret ∧ ¬ pre <+: numsp.nums xs))
    ⟨⟨0, n, by omega, by omega, by rw [List.nil_append, List.drop_zero]; unfold numsp.nums; rw [HR.out.len], PA1.out⟩, HMA1.out⟩
    (fun W => ∃ q, q ≤ n ∧ (dec 0 (xs.drop q)).2 = 0 ∧ PC pA1 (q : Nat) W ∧ NM w.heap.size w1.heap.size w2.heap.size Bs (.slice A n c) stop xs [] w W) 0 _ ?assign1a ?body1a ?s1a ?p1a ?end1a
  case assign1a =>
    intro l x W K hK
    gi_wp2
    exact hK
  case s1a =>
    rintro W ⟨⟨q, f, h1, h2, h3, h4⟩, h5⟩
    refine ⟨q, h1, items_nil (f := f) (p := q) ?_ (by rw [List.length_drop, HR.out.len]; exact h2), h4, h5⟩
    simpa using h3
  case p1a =>
    rintro cc pre W hp ⟨_, hno⟩
    exact absurd hp hno
  case body1a =>
    rintro l pre ⟨xp, xv⟩ W ⟨⟨q, f, hq, hf, hE, hP⟩, hM⟩ hlt
    have hne : (dec 0 (xs.drop q)).2 ≠ 0 := by
      intro h0
      rw [items_end _ _ _ h0, List.append_nil] at hE
      rw [← hE] at hlt
      exact Nat.lt_irrefl _ hlt
    have hd := dec_len (xs.drop q) (HR.out.2.drop q)
    rw [List.length_drop, HR.out.len] at hd
    obtain ⟨f', rfl⟩ : ∃ f', f = f' + 1 := ⟨f - 1, by omega⟩
    rw [items_next _ _ _ hne, List.drop_drop] at hE
    obtain ⟨A7, n7, c7, hcut, hm1, hm2, hm3, hrd⟩ := cutL A n c q hq hc
    have HT := Lib.hid (reftake_any A7 n7 c7 (xs.drop q) W (hrd _ _ (HR.out.below hM.2.2.2.2.2.2.1)))
    clear hrd
    generalize (dec 0 (xs.drop q)).1 = v at HT hE
    generalize (dec 0 (xs.drop q)).2 = k at HT hE hd hne
    have hy : (numsp.nums xs)[pre.length]? = some (q, v) := by rw [← hE]; simp
    have HY := Lib.hid hy
    have HE := Lib.hid hE
    have HM := Lib.hid hM
    have HP := Lib.hid hP
    have hsz := hM.2.2.2.2.2.1
    obtain ⟨a2, a3, a4, a4f, _⟩ := hM
    obtain ⟨p7, r7⟩ := hP
    have hkb : ((k : Int) == 0) = false := beq_eq_false_iff_ne.2 (by omega)
    clear hy hE hlt
    by_cases hx : xp = q ∧ xv = v
    · obtain ⟨rfl, rfl⟩ := hx
      gi_wp2_with (refine ⟨trivial, ?_⟩; gi_at_call 13; refine (CallsIn.inRound l (callsIn_wide.2 HT.out)).mono ?_; rintro e w' ⟨rfl, rfl⟩)
      refine ⟨keepsFrom_set _ _, (Band.refl hsz).set (.inr hh1) _ _, ⟨xp + k, f', by omega, by omega, by rw [← HE.out]; simp, ?_⟩, HM.out.set hh1 (by omega) (fun D hD => by have := HD1.out D hD; omega) _⟩
      have := HP.out.set ((xp + k : Nat) : Int)
      rwa [Int.natCast_add] at this ⊢
    · have hno : ¬ pre ++ [(xp, xv)] <+: numsp.nums xs := by
        intro hpp
        have := prefix_is hpp HY.out
        injection this with e1 e2
        exact hx ⟨e1, e2⟩
      have HNo := Lib.hid hno
      clear hno
      by_cases hxa : xp = q
      · have hxv : ¬ xv = v := fun e => hx ⟨hxa, e⟩
        have hxb : (xv != v) = true := by simpa using hxv
        subst hxa
        gi_wp2_with (refine ⟨trivial, ?_⟩; gi_at_call 13; refine (CallsIn.inRound l (callsIn_wide.2 HT.out)).mono ?_; rintro e w' ⟨rfl, rfl⟩)
        exact ⟨keepsFrom_set _ _, rfl, HNo.out⟩
      · have hxb : ((xp : Int) != (q : Int)) = true := by rw [bne_iff_ne]; omega
        gi_wp2_with (refine ⟨trivial, ?_⟩; gi_at_call 13; refine (CallsIn.inRound l (callsIn_wide.2 HT.out)).mono ?_; rintro e w' ⟨rfl, rfl⟩)
        exact ⟨keepsFrom_set _ _, rfl, HNo.out⟩
  case end1a =>
    rintro D1a V1 hDa1 ⟨q, hq, h0, hP, hM⟩ hK
    have hoa1 : pA1 < D1a := by omega
    have HN1 := Lib.hid (hM.more hK)
    obtain ⟨p7, _⟩ := hP
    obtain ⟨a2, a3, a4, a4f, _, hsz, hBV, _⟩ := hM
    obtain ⟨A7, n7, c7, hcut, hm1, hm2, hm3, hrd⟩ := cutL A n c q hq hc
    have HT := Lib.hid (reftake_any A7 n7 c7 (xs.drop q) V1 (hrd _ _ (HR.out.below hBV)))
    rw [h0] at HT
    clear hrd h0 hBV
    generalize (dec 0 (xs.drop q)).1 = v at HT
    have PB1 := Lib.hid (PC.new V1 3 0)
    have HMB1 := Lib.hid (HN1.out.below (below_alloc (Below.refl V1.heap.size V1) (.cells #[.int .i64 0] 3)) (Nat.le_refl _))
    have hzb1 : (V1.alloc (.cells #[.int .i64 0] 3)).heap.size = V1.heap.size + 1 := by simp
    have hdb1 : ∀ D ∈ ([D1a] : List Nat), D < V1.heap.size := fun D hD => (Array.getElem?_eq_some_iff.1 (HN1.out.2.2.2.2.2.2.2 D hD)).1
    have HDB1 := Lib.hid hdb1
    clear hdb1 hK
    go_wp2_with (go_at_call 13; refine HT.out.mono ?_; rintro e w' ⟨rfl, rfl⟩)
    refine (wpIn_wide (n := 6)).1 ?_
    clear a2 a3 a4 a4f p7 hcut hm1 hm2 hm3 HT
    generalize V1.alloc (.cells #[.int .i64 0] 3) = WB1 at PB1 HMB1 hzb1 ⊢
    generalize hpb1 : V1.heap.size = pB1 at PB1 hzb1 hsz HDB1 ⊢
    have hpbl1 := Nat.le_of_eq hpb1
    have hpbg1 := Nat.le_of_eq hpb1.symm
    clear hpb1
    refine' overNums rfl HMB1.out.2.2.2.2.1 HMB1.out.2.2.2.2.2.1 rfl
      (fun pre W => (((pre.length : Int) < stop ∨ pre.length = 0) ∧ PC pB1 (pre.length : Nat) W) ∧ NM w.heap.size w1.heap.size w2.heap.size Bs (.slice A n c) stop xs [D1a] w W)
      (fun cc pre W => (cc = .exit 4 ∧ ((pre.length : Int) ≤ stop ∨ pre.length ≤ 1) ∧ PC pB1 (pre.length : Nat) W) ∧ NM w.heap.size w1.heap.size w2.heap.size Bs (.slice A n c) stop xs [D1a] w W)
      (fun z W W' row hs hg hr => ⟨⟨hs.1.1, hs.1.2.own hg (fun r e => (hr r e).2)⟩, hs.2.own hg hr (by omega) (Nat.le_refl _) (by omega) (fun D hD => by have := HDB1.out D hD; omega)⟩)
      (fun cc z W W' row hs hg hr => ⟨⟨hs.1.1, hs.1.2.1, hs.1.2.2.own hg (fun r e => (hr r e).2)⟩, hs.2.own hg hr (by omega) (Nat.le_refl _) (by omega) (fun D hD => by have := HDB1.out D hD; omega)⟩)
      ⟨⟨.inr rfl, PB1.out⟩, HMB1.out⟩
      (fun W => ∃ z : Nat, ((z : Int) ≤ stop ∨ z ≤ 1) ∧ PC pB1 (z : Nat) W ∧ NM w.heap.size w1.heap.size w2.heap.size Bs (.slice A n c) stop xs [D1a] w W) 4 _ ?assign1b ?body1b ?s1b ?p1b ?end1b
    case assign1b =>
      intro l x W K hK
      gi_wp2
      exact hK
    case s1b =>
      rintro W ⟨⟨h1, h2⟩, h3⟩
      exact ⟨_, by omega, h2, h3⟩
    case p1b =>
      rintro cc pre W hp ⟨⟨rfl, h1, h2⟩, h3⟩
      exact ⟨rfl, ⟨_, h1, h2, h3⟩, fun a w h => h⟩
    case body1b =>
      rintro l pre x W ⟨⟨hs, hP⟩, hM⟩ hlt
      have hln : pre.length < n := Nat.lt_of_lt_of_le hlt (by unfold numsp.nums; have := items_len xs.length 0 xs; rw [HR.out.len] at this ⊢; exact this)
      have HM := Lib.hid hM
      have HP := Lib.hid hP
      have hszW := hM.2.2.2.2.2.1
      have hpl : (pre ++ [x]).length = pre.length + 1 := by simp
      have HPL := Lib.hid hpl
      have hwh : w2.heap.size ≤ pB1 := by omega
      obtain ⟨a2, a3, a4, a4f, _⟩ := hM
      obtain ⟨p7, r7⟩ := hP
      have hPS : PC pB1 ((pre ++ [x]).length : Nat) (W.setCell ⟨pB1, 0, none⟩ (.int .i64 ((pre.length : Int) + 1))) := by rw [hpl]; exact HP.out.set _
      have HPS := Lib.hid hPS
      have HMS := Lib.hid (HM.out.set (p := pB1) hwh (by omega) (fun D hD => by have := HDB1.out D hD; omega) (.int .i64 ((pre.length : Int) + 1)))
      have p8 := (HP.out.set ((pre.length : Int) + 1)).1
      have ne3 : (⟨pB1, 0, none⟩ : Addr) ≠ ⟨w.heap.size + 1, 0, none⟩ := by intro e; injection e with e; omega
      have a8 : (W.setCell ⟨pB1, 0, none⟩ (.int .i64 ((pre.length : Int) + 1))).cell? ⟨w.heap.size + 1, 0, none⟩ = some (.int .i64 stop) := (World.cell?_setCell_other _ _ _ _ ne3).trans a3
      clear hpl hPS ne3 hlt
      have hge : stop ≤ (pre.length : Int) + 1 := by omega
      gi_wp2
      exact ⟨keepsFrom_set _ _, ⟨rfl, by rw [HPL.out]; omega, HPS.out⟩, HMS.out⟩
    case end1b =>
      rintro D1b U1 hDb1 ⟨z, hz, hP, hM⟩ hK
      have hob1 : D1a < D1b := by have := HDB1.out D1a (by simp); omega
      have HM2 := Lib.hid (hM.more hK)
      obtain ⟨p7, _⟩ := hP
      obtain ⟨a2, a3, a4, a4f, _⟩ := hM
      have hs24 : 0 < stop → ¬ stop < (z : Int) := by omega
      clear hs24
      go_wp2
      have PA2 := Lib.hid (PC.new U1 3 0)
      have HMA2 := Lib.hid (HM2.out.below (below_alloc (Below.refl U1.heap.size U1) (.cells #[.int .i64 0] 3)) (Nat.le_refl _))
      have hz2 : (U1.alloc (.cells #[.int .i64 0] 3)).heap.size = U1.heap.size + 1 := by simp
      have hhx2 : w2.heap.size ≤ U1.heap.size := HM2.out.2.2.2.2.2.1
      have hd2 : ∀ D ∈ ([D1b, D1a] : List Nat), D < U1.heap.size := fun D hD => (Array.getElem?_eq_some_iff.1 (HM2.out.2.2.2.2.2.2.2 D hD)).1
      have HD2 := Lib.hid hd2
      clear hd2
      rw [rounds_succ]
      go_wp2
      refine (wpIn_wide (n := 6)).1 ?_
      generalize U1.alloc (.cells #[.int .i64 0] 3) = WA2 at PA2 HMA2 hz2 ⊢
      generalize hpa2 : U1.heap.size = pA2 at PA2 hz2 HD2 ⊢
      have hh2 : w2.heap.size ≤ pA2 := by omega
      have hpal2 := Nat.le_of_eq hpa2
      have hpag2 := Nat.le_of_eq hpa2.symm
      clear hpa2
      refine' overNums rfl HMA2.out.2.2.2.2.1 HMA2.out.2.2.2.2.2.1 rfl
        (fun pre W => (∃ q f, q ≤ n ∧ n - q ≤ f ∧ pre ++ items f q (xs.drop q) = numsp.nums xs ∧ PC pA2 (q : Nat) W) ∧ NM w.heap.size w1.heap.size w2.heap.size Bs (.slice A n c) stop xs [D1b, D1a] w W)
        (fun cc pre W => cc = .ret ∧ ¬ pre <+: numsp.nums xs)
        (fun z W W' row hs hg hr => ⟨by obtain ⟨⟨q, f, h1, h2, h3, h4⟩, _⟩ := hs; exact ⟨q, f, h1, h2, h3, h4.own hg (fun r e => (hr r e).2)⟩, hs.2.own hg hr (by omega) (Nat.le_refl _) (by omega) (fun D hD => by have := HD2.out D hD; omega)⟩)
        (fun cc => ownFrom_pure _ (fun pre => cc = .ret ∧ ¬ pre <+: numsp.nums xs))
        ⟨⟨0, n, by omega, by omega, by rw [List.nil_append, List.drop_zero]; unfold numsp.nums; rw [HR.out.len], PA2.out⟩, HMA2.out⟩
        (fun W => ∃ q, q ≤ n ∧ (dec 0 (xs.drop q)).2 = 0 ∧ PC pA2 (q : Nat) W ∧ NM w.heap.size w1.heap.size w2.heap.size Bs (.slice A n c) stop xs [D1b, D1a] w W) 0 _ ?assign2a ?body2a ?s2a ?p2a ?end2a
      case assign2a =>
        intro l x W K hK
        gi_wp2
        exact hK
      case s2a =>
        rintro W ⟨⟨q, f, h1, h2, h3, h4⟩, h5⟩
        refine ⟨q, h1, items_nil (f := f) (p := q) ?_ (by rw [List.length_drop, HR.out.len]; exact h2), h4, h5⟩
        simpa using h3
      case p2a =>
        rintro cc pre W hp ⟨_, hno⟩
        exact absurd hp hno
      case body2a =>
        rintro l pre ⟨xp, xv⟩ W ⟨⟨q, f, hq, hf, hE, hP⟩, hM⟩ hlt
        have hne : (dec 0 (xs.drop q)).2 ≠ 0 := by
          intro h0
          rw [items_end _ _ _ h0, List.append_nil] at hE
          rw [← hE] at hlt
          exact Nat.lt_irrefl _ hlt
        have hd := dec_len (xs.drop q) (HR.out.2.drop q)
        rw [List.length_drop, HR.out.len] at hd
        obtain ⟨f', rfl⟩ : ∃ f', f = f' + 1 := ⟨f - 1, by omega⟩
        rw [items_next _ _ _ hne, List.drop_drop] at hE
        obtain ⟨A7, n7, c7, hcut, hm1, hm2, hm3, hrd⟩ := cutL A n c q hq hc
        have HT := Lib.hid (reftake_any A7 n7 c7 (xs.drop q) W (hrd _ _ (HR.out.below hM.2.2.2.2.2.2.1)))
        clear hrd
        generalize (dec 0 (xs.drop q)).1 = v at HT hE
        generalize (dec 0 (xs.drop q)).2 = k at HT hE hd hne
        have hy : (numsp.nums xs)[pre.length]? = some (q, v) := by rw [← hE]; simp
        have HY := Lib.hid hy
        have HE := Lib.hid hE
        have HM := Lib.hid hM
        have HP := Lib.hid hP
        have hsz := hM.2.2.2.2.2.1
        obtain ⟨a2, a3, a4, a4f, _⟩ := hM
        obtain ⟨p7, r7⟩ := hP
        have hkb : ((k : Int) == 0) = false := beq_eq_false_iff_ne.2 (by omega)
        clear hy hE hlt
        by_cases hx : xp = q ∧ xv = v
        · obtain ⟨rfl, rfl⟩ := hx
          gi_wp2_with (refine ⟨trivial, ?_⟩; gi_at_call 13; refine (CallsIn.inRound l (callsIn_wide.2 HT.out)).mono ?_; rintro e w' ⟨rfl, rfl⟩)
          refine ⟨keepsFrom_set _ _, (Band.refl hsz).set (.inr hh2) _ _, ⟨xp + k, f', by omega, by omega, by rw [← HE.out]; simp, ?_⟩, HM.out.set hh2 (by omega) (fun D hD => by have := HD2.out D hD; omega) _⟩
          have := HP.out.set ((xp + k : Nat) : Int)
          rwa [Int.natCast_add] at this ⊢
        · have hno : ¬ pre ++ [(xp, xv)] <+: numsp.nums xs := by
            intro hpp
            have := prefix_is hpp HY.out
            injection this with e1 e2
            exact hx ⟨e1, e2⟩
          have HNo := Lib.hid hno
          clear hno
          by_cases hxa : xp = q
          · have hxv : ¬ xv = v := fun e => hx ⟨hxa, e⟩
            have hxb : (xv != v) = true := by simpa using hxv
            subst hxa
            gi_wp2_with (refine ⟨trivial, ?_⟩; gi_at_call 13; refine (CallsIn.inRound l (callsIn_wide.2 HT.out)).mono ?_; rintro e w' ⟨rfl, rfl⟩)
            exact ⟨keepsFrom_set _ _, rfl, HNo.out⟩
          · have hxb : ((xp : Int) != (q : Int)) = true := by rw [bne_iff_ne]; omega
            gi_wp2_with (refine ⟨trivial, ?_⟩; gi_at_call 13; refine (CallsIn.inRound l (callsIn_wide.2 HT.out)).mono ?_; rintro e w' ⟨rfl, rfl⟩)
            exact ⟨keepsFrom_set _ _, rfl, HNo.out⟩
      case end2a =>
        rintro D2a V2 hDa2 ⟨q, hq, h0, hP, hM⟩ hK
        have hoa2 : pA2 < D2a := by omega
        have HN2 := Lib.hid (hM.more hK)
        obtain ⟨p7, _⟩ := hP
        obtain ⟨a2, a3, a4, a4f, _, hsz, hBV, _⟩ := hM
        obtain ⟨A7, n7, c7, hcut, hm1, hm2, hm3, hrd⟩ := cutL A n c q hq hc
        have HT := Lib.hid (reftake_any A7 n7 c7 (xs.drop q) V2 (hrd _ _ (HR.out.below hBV)))
        rw [h0] at HT
        clear hrd h0 hBV
        generalize (dec 0 (xs.drop q)).1 = v at HT
        have PB2 := Lib.hid (PC.new V2 3 0)
        have HMB2 := Lib.hid (HN2.out.below (below_alloc (Below.refl V2.heap.size V2) (.cells #[.int .i64 0] 3)) (Nat.le_refl _))
        have hzb2 : (V2.alloc (.cells #[.int .i64 0] 3)).heap.size = V2.heap.size + 1 := by simp
        have hdb2 : ∀ D ∈ ([D2a, D1b, D1a] : List Nat), D < V2.heap.size := fun D hD => (Array.getElem?_eq_some_iff.1 (HN2.out.2.2.2.2.2.2.2 D hD)).1
        have HDB2 := Lib.hid hdb2
        clear hdb2 hK
        go_wp2_with (go_at_call 13; refine HT.out.mono ?_; rintro e w' ⟨rfl, rfl⟩)
        refine (wpIn_wide (n := 6)).1 ?_
        clear a2 a3 a4 a4f p7 hcut hm1 hm2 hm3 HT
        generalize V2.alloc (.cells #[.int .i64 0] 3) = WB2 at PB2 HMB2 hzb2 ⊢
        generalize hpb2 : V2.heap.size = pB2 at PB2 hzb2 hsz HDB2 ⊢
        have hpbl2 := Nat.le_of_eq hpb2
        have hpbg2 := Nat.le_of_eq hpb2.symm
        clear hpb2
        refine' overNums rfl HMB2.out.2.2.2.2.1 HMB2.out.2.2.2.2.2.1 rfl
          (fun pre W => (((pre.length : Int) < stop ∨ pre.length = 0) ∧ PC pB2 (pre.length : Nat) W) ∧ NM w.heap.size w1.heap.size w2.heap.size Bs (.slice A n c) stop xs [D2a, D1b, D1a] w W)
          (fun cc pre W => (cc = .exit 4 ∧ ((pre.length : Int) ≤ stop ∨ pre.length ≤ 1) ∧ PC pB2 (pre.length : Nat) W) ∧ NM w.heap.size w1.heap.size w2.heap.size Bs (.slice A n c) stop xs [D2a, D1b, D1a] w W)
          (fun z W W' row hs hg hr => ⟨⟨hs.1.1, hs.1.2.own hg (fun r e => (hr r e).2)⟩, hs.2.own hg hr (by omega) (Nat.le_refl _) (by omega) (fun D hD => by have := HDB2.out D hD; omega)⟩)
          (fun cc z W W' row hs hg hr => ⟨⟨hs.1.1, hs.1.2.1, hs.1.2.2.own hg (fun r e => (hr r e).2)⟩, hs.2.own hg hr (by omega) (Nat.le_refl _) (by omega) (fun D hD => by have := HDB2.out D hD; omega)⟩)
          ⟨⟨.inr rfl, PB2.out⟩, HMB2.out⟩
          (fun W => ∃ z : Nat, ((z : Int) ≤ stop ∨ z ≤ 1) ∧ PC pB2 (z : Nat) W ∧ NM w.heap.size w1.heap.size w2.heap.size Bs (.slice A n c) stop xs [D2a, D1b, D1a] w W) 4 _ ?assign2b ?body2b ?s2b ?p2b ?end2b
        case assign2b =>
          intro l x W K hK
          gi_wp2
          exact hK
        case s2b =>
          rintro W ⟨⟨h1, h2⟩, h3⟩
          exact ⟨_, by omega, h2, h3⟩
        case p2b =>
          rintro cc pre W hp ⟨⟨rfl, h1, h2⟩, h3⟩
          exact ⟨rfl, ⟨_, h1, h2, h3⟩, fun a w h => h⟩
        case body2b =>
          rintro l pre x W ⟨⟨hs, hP⟩, hM⟩ hlt
          have hln : pre.length < n := Nat.lt_of_lt_of_le hlt (by unfold numsp.nums; have := items_len xs.length 0 xs; rw [HR.out.len] at this ⊢; exact this)
          have HM := Lib.hid hM
          have HP := Lib.hid hP
          have hszW := hM.2.2.2.2.2.1
          have hpl : (pre ++ [x]).length = pre.length + 1 := by simp
          have HPL := Lib.hid hpl
          have hwh : w2.heap.size ≤ pB2 := by omega
          obtain ⟨a2, a3, a4, a4f, _⟩ := hM
          obtain ⟨p7, r7⟩ := hP
          have hPS : PC pB2 ((pre ++ [x]).length : Nat) (W.setCell ⟨pB2, 0, none⟩ (.int .i64 ((pre.length : Int) + 1))) := by rw [hpl]; exact HP.out.set _
          have HPS := Lib.hid hPS
          have HMS := Lib.hid (HM.out.set (p := pB2) hwh (by omega) (fun D hD => by have := HDB2.out D hD; omega) (.int .i64 ((pre.length : Int) + 1)))
          have p8 := (HP.out.set ((pre.length : Int) + 1)).1
          have ne3 : (⟨pB2, 0, none⟩ : Addr) ≠ ⟨w.heap.size + 1, 0, none⟩ := by intro e; injection e with e; omega
          have a8 : (W.setCell ⟨pB2, 0, none⟩ (.int .i64 ((pre.length : Int) + 1))).cell? ⟨w.heap.size + 1, 0, none⟩ = some (.int .i64 stop) := (World.cell?_setCell_other _ _ _ _ ne3).trans a3
          clear hpl hPS ne3 hlt
          have hge : stop ≤ (pre.length : Int) + 1 := by omega
          gi_wp2
          exact ⟨keepsFrom_set _ _, ⟨rfl, by rw [HPL.out]; omega, HPS.out⟩, HMS.out⟩
        case end2b =>
          rintro D2b U2 hDb2 ⟨z, hz, hP, hM⟩ hK
          have hob2 : D2a < D2b := by have := HDB2.out D2a (by simp); omega
          have HM3 := Lib.hid (hM.more hK)
          obtain ⟨p7, _⟩ := hP
          obtain ⟨a2, a3, a4, a4f, _⟩ := hM
          have hs24 : 0 < stop → ¬ stop < (z : Int) := by omega
          clear hs24
          go_wp2
          have hq3 := HM3.out
          obtain ⟨a2, a3, a4, a4f, aN, aS, aB, aD⟩ := hq3
          have d1 := (Array.getElem?_eq_some_iff.1 (aD D1a (by simp))).1
          rw [rounds_succ]
          go_wp2
          have hx1 := HD2.out D1b (by simp)
          refine leavesAll w.heap.size [D2b, D2a, D1b, D1a] _ (by simp; omega) (by simp; omega) (fun D hD => ?_) (fun w' hcl hbl => ?_)
          · have hDm := aD D hD
            have hne : w.heap.size + 1 + 1 < D := by
              simp only [List.mem_cons, List.not_mem_nil, or_false] at hD
              rcases hD with rfl | rfl | rfl | rfl <;> omega
            rw [Below.heap_setCell _ _ _ _ (show D ≠ w.heap.size + 1 + 1 by omega)]
            exact hDm
          · have hc5 := hcl (w.heap.size + 1 + 1) _ (World.cell?_setCell_same' U2 ⟨w.heap.size + 1 + 1, 0, none⟩ (.bool true) (by rw [a4]; rfl))
            refine ⟨.bool true, ?_, rfl, (aB.setCell (p := ⟨w.heap.size + 1 + 1, 0, none⟩) (show w.heap.size ≤ w.heap.size + 1 + 1 by omega) _).trans hbl⟩
            simp [results, Try.f7, go_sem, hc5]
theorem numbersLaw (A : Option Addr) (n c : Nat) (xs : List Int) (stop : Int) (w : World) (hr : RdB w A n xs) (hc : n ≤ c) (hn : n * 1 ≤ 140737488351232) (hst : -9223372036854775808 ≤ stop ∧ stop ≤ 9223372036854775807) :
    Calls Try.prog 7 #[.slice A n c, .int .i64 stop] w fun e w' => e = .returned (.bool true) ∧ Below w.heap.size w w' := by
  rcases Int.lt_or_le 0 stop with h | h
  · exact numbersPos A n c xs stop w hr hc hn hst h
  · exact numbersNeg A n c xs stop w hr hc hn hst h
end Go.Proofs.Ytlbhmbbmpmhcjaa.packl7
