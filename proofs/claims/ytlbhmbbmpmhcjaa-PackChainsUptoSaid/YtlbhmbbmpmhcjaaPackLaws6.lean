/- The walk of the law PackChains. -/
import Derived.Test.YtlbhmbbmpmhcjaaNums
import Derived.OpenShut
import Derived.Sort.CutIn
set_option linter.unusedVariables false
set_option linter.unusedSimpArgs false
namespace Go.Proofs.Ytlbhmbbmpmhcjaa.packl
open Go.RowKit Go.Shelf Go.Proofs.YtlbhmbbmpmhcjaaW.PrintWords Go.Proofs.Ytlbhmbbmpmhcjaa.base Go.Proofs.Ytlbhmbbmpmhcjaa.mem Go.Proofs.Ytlbhmbbmpmhcjaa.packp Go.Proofs.Ytlbhmbbmpmhcjaa.packw Go.Proofs.Ytlbhmbbmpmhcjaa.samew Go.Proofs.Ytlbhmbbmpmhcjaa.keep Go.Proofs.Ytlbhmbbmpmhcjaa.numsp Go.Proofs.Ytlbhmbbmpmhcjaa.numsw
attribute [local go_sem] Oper.semAt_some

theorem prefix_next {α : Type} {pre L : List α} {y : α} (h : pre <+: L) (hy : L[pre.length]? = some y) : pre ++ [y] <+: L := by
  obtain ⟨t, rfl⟩ := h
  rw [List.getElem?_append_right (Nat.le_refl _), Nat.sub_self] at hy
  cases t with
  | nil => cases hy
  | cons z t => simp at hy; subst hy; exact ⟨t, by simp⟩
theorem prefix_is {α : Type} {pre L : List α} {x y : α} (h : pre ++ [x] <+: L) (hy : L[pre.length]? = some y) : x = y := by
  obtain ⟨t, rfl⟩ := h
  simp at hy
  exact hy
/-- what a round of the walk below knows of memory -/
def ChM (b6 b0 : Nat) (sv : Value) (k at_ : Nat) (W : World) : Prop :=
  W.cell? ⟨b6, 0, none⟩ = some (.int .i64 (k : Nat)) ∧ W.frozen? ⟨b6, 0, none⟩ = false ∧ W.cell? ⟨b6 + 1, 0, none⟩ = some (.int .i64 (at_ : Nat)) ∧ W.frozen? ⟨b6 + 1, 0, none⟩ = false ∧ W.cell? ⟨b0, 0, none⟩ = some sv ∧ W.cell? ⟨b0 + 1, 0, none⟩ = some (.bool false) ∧ W.frozen? ⟨b0 + 1, 0, none⟩ = false
theorem ChM.own {b6 b0 k at_ : Nat} {sv : Value} {A B : World} {row : Option Nat} (h : ChM b6 b0 sv k at_ A) (hg : A.grownBy B row) (hr : ∀ r, row = some r → ∃ o, A.heap[r]? = some o ∧ o.isCells = false) : ChM b6 b0 sv k at_ B :=
  ⟨cell_kept h.1 hg hr, (frozen_kept h.1 hg hr).trans h.2.1, cell_kept h.2.2.1 hg hr, (frozen_kept h.2.2.1 hg hr).trans h.2.2.2.1, cell_kept h.2.2.2.2.1 hg hr, cell_kept h.2.2.2.2.2.1 hg hr, (frozen_kept h.2.2.2.2.2.1 hg hr).trans h.2.2.2.2.2.2⟩
theorem ChM.below {b6 b0 k at_ : Nat} {sv : Value} {A B : World} (h : ChM b6 b0 sv k at_ A) (hb : Below A.heap.size A B) : ChM b6 b0 sv k at_ B := by
  obtain ⟨h1, h2, h3, h4, h5, h6, h7⟩ := h
  exact ⟨pw_cell_below hb h1, (hb.frozen (p := ⟨b6, 0, none⟩) (World.block_lt_of_cell? _ _ h1)).trans h2, pw_cell_below hb h3, (hb.frozen (p := ⟨b6 + 1, 0, none⟩) (World.block_lt_of_cell? _ _ h3)).trans h4, pw_cell_below hb h5, pw_cell_below hb h6, (hb.frozen (p := ⟨b0 + 1, 0, none⟩) (World.block_lt_of_cell? _ _ h6)).trans h7⟩
theorem ChM.step {b6 b0 k at_ k' at' : Nat} {sv : Value} {W : World} (h : ChM b6 b0 sv k at_ W) (hb : b0 + 1 < b6) : ChM b6 b0 sv k' at' ((W.setCell ⟨b6 + 1, 0, none⟩ (.int .i64 (at' : Nat))).setCell ⟨b6, 0, none⟩ (.int .i64 (k' : Nat))) := by
  obtain ⟨h1, h2, h3, h4, h5, h6, h7⟩ := h
  have n1 : (⟨b6 + 1, 0, none⟩ : Addr) ≠ ⟨b6, 0, none⟩ := by intro e; injection e with e; omega
  have n2 : (⟨b6, 0, none⟩ : Addr) ≠ ⟨b6 + 1, 0, none⟩ := Ne.symm n1
  have n3 : ∀ i, i < b6 → (⟨b6 + 1, 0, none⟩ : Addr) ≠ ⟨i, 0, none⟩ := by intro i hi e; injection e with e; omega
  have n4 : ∀ i, i < b6 → (⟨b6, 0, none⟩ : Addr) ≠ ⟨i, 0, none⟩ := by intro i hi e; injection e with e; omega
  refine ⟨?_, by simpa using h2, ?_, by simpa using h4, ?_, ?_, by simpa using h7⟩
  · exact World.cell?_setCell_same' _ _ _ (by rw [World.cell?_setCell_other _ _ _ _ n1, h1]; rfl)
  · rw [World.cell?_setCell_other _ _ _ _ n2]; exact World.cell?_setCell_same' _ _ _ (by rw [h3]; rfl)
  · rw [World.cell?_setCell_other _ _ _ _ (n4 _ (by omega)), World.cell?_setCell_other _ _ _ _ (n3 _ (by omega))]; exact h5
  · rw [World.cell?_setCell_other _ _ _ _ (n4 _ (by omega)), World.cell?_setCell_other _ _ _ _ (n3 _ (by omega))]; exact h6
theorem keepsFrom_below {B : Nat} {W W' : World} (hb : Below W.heap.size W W') : KeepsFrom B W W' := ⟨hb.size, fun i o _ hi _ => by rw [hb.block i (Array.getElem?_eq_some_iff.1 hi).1]; exact hi⟩
theorem keepsFrom_set {B : Nat} {W : World} (p : Addr) (v : Value) : KeepsFrom B W (W.setCell p v) := (KeepsOthers.setCell W p v).from B
/-- what a round hands on -/
def ChEnd (w : World) (b6 hi : Nat) (L : List (Nat × Int)) (m : Nat) (sv : Value) (zs : List Int) (W : World) (pre : List (Nat × Int)) (W' : World) : Prop :=
  KeepsFrom hi W W' ∧ Band (b6 + 2) hi W W' ∧ (pre <+: L ∧ pre.length ≤ m ∧ hi ≤ W'.heap.size ∧ ChM b6 w.heap.size sv pre.length (encAll (zs.take pre.length)).length W') ∧ Below w.heap.size w W'
theorem chEnd {w W w7 : World} {b6 hi m at_ k' : Nat} {L : List (Nat × Int)} {sv : Value} {zs : List Int} {pre : List (Nat × Int)} {v : Int} (hb : Below W.heap.size W w7) (hB : Below w.heap.size w W) (hbs : hi ≤ W.heap.size) (hp : pre <+: L) (hy : L[pre.length]? = some (at_, v)) (hk : pre.length < m)
    (hs : (encAll (zs.take (pre.length + 1))).length = at_ + k') (hM : ChM b6 w.heap.size sv pre.length at_ W) (h0 : w.heap.size + 1 < b6) (h5 : b6 + 2 ≤ hi) :
    ChEnd w b6 hi L m sv zs W (pre ++ [(at_, v)]) ((w7.setCell ⟨b6 + 1, 0, none⟩ (.int .i64 ((at_ + k' : Nat) : Int))).setCell ⟨b6, 0, none⟩ (.int .i64 ((pre.length + 1 : Nat) : Int))) := by
  have hlen : (pre ++ [(at_, v)]).length = pre.length + 1 := by simp
  have hB7 : Below w.heap.size w w7 := hB.trans (hb.mono hB.size)
  have b1 : Below w.heap.size w (w7.setCell ⟨b6 + 1, 0, none⟩ (.int .i64 ((at_ + k' : Nat) : Int))) := hB7.setCell (p := ⟨b6 + 1, 0, none⟩) (show w.heap.size ≤ b6 + 1 by omega) _
  have b2 := b1.setCell (p := ⟨b6, 0, none⟩) (show w.heap.size ≤ b6 by omega) (.int .i64 ((pre.length + 1 : Nat) : Int))
  have d1 : Band (b6 + 2) hi W w7 := (Band.of_below hb).narrow hbs
  have d2 := (d1.set (g := b6 + 1) (.inl (by omega)) 0 (.int .i64 ((at_ + k' : Nat) : Int))).set (g := b6) (.inl (by omega)) 0 (.int .i64 ((pre.length + 1 : Nat) : Int))
  refine ⟨(keepsFrom_below hb).trans ((keepsFrom_set _ _).trans (keepsFrom_set _ _)), d2, ⟨prefix_next hp hy, by omega, d2.1, ?_⟩, b2⟩
  rw [hlen, hs]
  exact (hM.below hb).step h0
set_option maxHeartbeats 4000000 in
set_option maxRecDepth 100000 in
theorem chainsLaw (A' : Option Addr) (m c' : Nat) (zs : List Int) (A : Option Addr) (n c : Nat) (xs : List Int) (w : World) (hz : ReadsInt w .i64 A' m zs) (hw : ∀ z ∈ zs, (Lit.int .i64 z).wf = true) (_ : m ≤ c') (hm : m + 1 ≤ 1048576) (hr : RdB w A n xs) (_ : n ≤ c) (hn : n + 1 ≤ 1048576) :
    Calls Try.prog 8 #[.slice A' m c', .slice A n c] w fun e w' => e = .returned (.bool true) ∧ Below w.heap.size w w' := by
  have HR := Lib.hid hr
  have HZ := Lib.hid hz
  have hzl := hz.1
  have HW : Hid (∀ z ∈ zs, -9223372036854775808 ≤ z ∧ z ≤ 9223372036854775807) := Lib.hid fun z h => bounds_i64 (hw z h)
  have hE := encAll_len zs (fun z h => (HW.out z h).2)
  rw [hzl] at hE
  have hn' : n ≤ 1048576 := by omega
  have hm' : m ≤ 1048576 := by omega
  clear hr hz hw hn hm
  have HB0 := Lib.hid ((below_alloc (Below.refl w.heap.size w) (.cells #[.slice A' m c'] 30)).alloc (by simp) (.cells #[.bool false] 4))
  have hs0 := HB0.out.size
  refine (callsIn_wide (n := 6)).1 ?_
  refine callsIn_of_wp_marks Try.func8 rfl trivial ?_ rfl
  simp only [Try.ntmps8, List.size_toArray, List.length_cons, List.length_nil, Nat.reduceAdd, Nat.reduceSub, Array.replicate_succ, Array.replicate_zero, List.push_toArray, List.append_toArray, List.nil_append, List.cons_append]
  refine wpIn_wide.2 ?_
  go_wp2_with fail
  refine (wakes_any _).mono ?_
  rintro e w1 ⟨rfl, hb⟩
  have c2 : w1.cell? ⟨w.heap.size, 0, none⟩ = some (.slice A' m c') := pw_cell_below hb (by simp)
  have c4 : w1.cell? ⟨w.heap.size + 1, 0, none⟩ = some (.bool false) := pw_cell_below hb (by simp)
  have f4 : w1.frozen? ⟨w.heap.size + 1, 0, none⟩ = false := by rw [hb.frozen (p := ⟨w.heap.size + 1, 0, none⟩) (by simp)]; simp
  have HB1 := Lib.hid (HB0.out.trans (hb.mono hs0))
  have hs1 := HB1.out.size
  have HZ1 := Lib.hid (HZ.out.below HB1.out)
  have hlt1 := World.block_lt_of_cell? _ _ c4
  dsimp only at hlt1
  clear hb
  go_wp2_with fail
  refine (put_any none 0 0 [] _ _ _ zs _ (nilB _) HZ1.out HW.out (by omega)).mono ?_
  rintro e w2 ⟨A2, n2, k2, rfl, ho, hb⟩
  rw [List.nil_append] at ho
  have hn2 := ho.len
  subst hn2
  have HO2 := Lib.hid ho
  have HB2 := Lib.hid hb
  have hs2 := hb.size
  have HR2 := Lib.hid (HR.out.below (HB1.out.trans (hb.mono hs1)))
  have d2 := pw_cell_below hb c2
  clear ho hb
  go_wp2_with (first | (at_builtin; refine app (w0 := w1) (base := w1.heap.size) rfl (.tmp 13) (.tmp 14) rfl rfl rfl (HO2.out) (HR2.out) (HB2.out) ?s3 ?l3 ?_; (case s3 => exact hs2); (case l3 => omega); intro A3 n3 c3 w3 ho hb; have hn3 := ho.len; rw [List.length_append, HR.out.len] at hn3; subst hn3; have HO3 := Lib.hid ho; have HB3 := Lib.hid (HB1.out.trans (hb.mono hs1)); have hs3 := hb.size; have e2 := pw_cell_below hb c2; have e4 := pw_cell_below hb c4; have g4 : w3.frozen? ⟨w.heap.size + 1, 0, none⟩ = false := (by rw [hb.frozen (p := ⟨w.heap.size + 1, 0, none⟩) hlt1]; exact f4); have HZ3 := Lib.hid (HZ1.out.below hb); clear ho hb))
  have hlt4 := World.block_lt_of_cell? _ _ e4
  dsimp only at hlt4
  have HB4 := Lib.hid ((HB3.out.alloc HB3.out.size (.cells #[.int .i64 0] 3)).alloc (by have := HB3.out.size; simp; omega) (.cells #[.int .i64 0] 3))
  refine (numbers_any _ _ _ (encAll zs ++ xs) _ ((HO3.out.alloc _).alloc _).rd (by omega)).mono ?_
  rintro e w5 ⟨Bs, rfl, hN, hb⟩
  have q2 : w5.cell? ⟨w.heap.size, 0, none⟩ = some (.slice A' m c') := pw_cell_below hb (by rw [World.cell?_alloc_lt, World.cell?_alloc_lt] <;> first | exact e2 | (simp; omega))
  have q4 : w5.cell? ⟨w.heap.size + 1, 0, none⟩ = some (.bool false) := pw_cell_below hb (by rw [World.cell?_alloc_lt, World.cell?_alloc_lt] <;> first | exact e4 | (simp; omega))
  have q6 : w5.cell? ⟨w3.heap.size, 0, none⟩ = some (.int .i64 0) := pw_cell_below hb (by simp)
  have q7 : w5.cell? ⟨w3.heap.size + 1, 0, none⟩ = some (.int .i64 0) := pw_cell_below hb (by simp)
  have v4 : w5.frozen? ⟨w.heap.size + 1, 0, none⟩ = false := by rw [hb.frozen (p := ⟨w.heap.size + 1, 0, none⟩) (by simp; omega), World.frozen?_alloc_past _ _ _ (by simp; omega), World.frozen?_alloc_past _ _ _ (by omega)]; exact g4
  have v6 : w5.frozen? ⟨w3.heap.size, 0, none⟩ = false := by rw [hb.frozen (p := ⟨w3.heap.size, 0, none⟩) (by simp; omega)]; simp
  have v7 : w5.frozen? ⟨w3.heap.size + 1, 0, none⟩ = false := by rw [hb.frozen (p := ⟨w3.heap.size + 1, 0, none⟩) (by simp)]; simp
  have HB5 := Lib.hid (HB4.out.trans (hb.mono HB4.out.size))
  have HN5 := Lib.hid hN
  clear hN
  go_wp2
  refine (wpIn_wide (n := 6)).1 ?_
  obtain ⟨tl, hL⟩ := nums_chain zs xs (fun z h => (HW.out z h).2)
  have hCL := chain_len zs 0
  have hAt : ∀ k, k < m → (numsp.nums (encAll zs ++ xs))[k]? = some ((encAll (zs.take k)).length, max (zs.getD k 0) 0) := by
    intro k hk
    rw [hL, List.getElem?_append_left (by rw [hCL, hzl]; exact hk), chain_at zs 0 k (by rw [hzl]; exact hk), Nat.zero_add]
  have HAt := Lib.hid hAt
  have hLm : m ≤ (numsp.nums (encAll zs ++ xs)).length := by rw [hL, List.length_append, hCL, hzl]; omega
  have HHi : Hid (∀ W, Below w.heap.size w W → ReadsInt W .i64 A' m zs) := Lib.hid fun W h => HZ.out.below h
  have HNN := all_stops (6 - 1) (by decide) Bs _ _ (encAll zs ++ xs) w5 (Nat.le_refl _) HN5.out
  generalize numsp.nums (encAll zs ++ xs) = L at HNN HAt hLm
  have hlo : ((w3.alloc (.cells #[.int .i64 0] 3)).alloc (.cells #[.int .i64 0] 3)).heap.size = w3.heap.size + 2 := by simp
  rw [hlo] at HNN
  have hb5 : w3.heap.size + 2 ≤ w5.heap.size := by rw [← hlo]; exact hb.size
  have hw0 : w.heap.size ≤ w3.heap.size := by omega
  clear HN5 hb hAt hL hCL hlo HB4 HO3 HR2 HO2 HB2 c2 c4 f4 d2 e2 e4 g4 HZ1 HZ3
  generalize w3.heap.size = b6 at *
  refine' wpIn_rangeFunc_ownG rfl (by decide) (gf := 29) (lb := #[.pointer (some ⟨Bs, 0, none⟩)]) rfl trivial (enters_of Try.func29 (by kernel_rfl) rfl) HNN (fun h k => bandTrans h k) (band_put (Nat.le_refl _)) (Below.refl _ _) (fun _ => rfl)
    (fun pre W => (pre <+: L ∧ pre.length ≤ m ∧ w5.heap.size ≤ W.heap.size ∧ ChM b6 w.heap.size (.slice A' m c') pre.length (encAll (zs.take pre.length)).length W) ∧ Below w.heap.size w W)
    (fun c pre W => ((c = .exit 0 ∧ ChM b6 w.heap.size (.slice A' m c') m (encAll zs).length W) ∨ (c = .ret ∧ ¬ pre <+: L)) ∧ Below w.heap.size w W)
    (OwnFrom.and (Own.from (fun s A B row hs hg hr => ⟨hs.1, hs.2.1, Nat.le_trans hs.2.2.1 hg.size, hs.2.2.2.own hg hr⟩) _) (ownFrom_below (Nat.le_refl _) (by omega)))
    (fun c => OwnFrom.and (Own.from (fun s A B row hs hg hr => hs.elim (fun h => .inl ⟨h.1, h.2.own hg hr⟩) .inr) _) (ownFrom_below (Nat.le_refl _) (by omega)))
    ⟨⟨⟨_, rfl⟩, Nat.zero_le _, Nat.le_refl _, q6, v6, q7, v7, q2, q4, v4⟩, HB5.out⟩ _ ?assign ?body ?done ?stop
  case assign =>
    intro l x W K hK
    gi_wp2
    exact hK
  case body =>
    rintro l pre ⟨xp, xv⟩ W ⟨⟨hp, hl, hbs, hM⟩, hB⟩ hlt
    have HM := Lib.hid hM
    obtain ⟨p6, r6, p7, r7, p2, p4, r4⟩ := hM
    by_cases hk : pre.length = m
    · have HM := HM.out
      rw [hk] at p6 p7 HM
      rw [List.take_of_length_le (Nat.le_of_eq hzl)] at p7 HM
      have HM := Lib.hid HM
      gi_wp2
      exact ⟨KeepsFrom.refl _ _, .inl ⟨rfl, HM.out⟩, hB⟩
    · have hkm : pre.length < m := by omega
      have hy := HAt.out _ hkm
      have hS := take_snoc zs pre.length (by omega)
      have hzb := HW.out (zs.getD pre.length 0) (by rw [List.getD_eq_getElem?_getD, List.getElem?_eq_getElem (by omega)]; exact List.getElem_mem _)
      obtain ⟨ad, rfl, hall⟩ := (HHi.out W hB).2.2 (by omega)
      have hz := hall _ hkm
      clear hall
      generalize zs.getD pre.length 0 = z at hy hS hzb hz
      have hel := encI_len z hzb.2
      have hle : (encAll (zs.take pre.length)).length ≤ 9 * m := by
        have := encAll_len (zs.take pre.length) (fun z h => (HW.out z (List.mem_of_mem_take h)).2)
        rw [List.length_take] at this
        omega
      have hSL : (encAll (zs.take (pre.length + 1))).length = (encAll (zs.take pre.length)).length + (encI z).length := by rw [hS, encAll_snoc, List.length_append]
      have HSL := Lib.hid hSL
      have HY := Lib.hid hy
      have HP := Lib.hid hp
      have HBW := Lib.hid hB
      clear hS hSL hy hp hB
      generalize (encAll (zs.take pre.length)).length = at_ at *
      have hmx : Try.prog.follows .mixedOrders = true := by kernel_rfl
      obtain ⟨v, hv⟩ : ∃ v, max z 0 = v := ⟨_, rfl⟩
      rw [hv] at HY
      have hlt6 := World.block_lt_of_cell? _ _ p6
      have hlt7 := World.block_lt_of_cell? _ _ p7
      dsimp only at hlt6 hlt7
      have hwr : IntKind.i64.wrap ((at_ : Int) + ((encI z).length : Nat)) = ((at_ + (encI z).length : Nat) : Int) := by rw [IntKind.wrap_i64]; omega
      have hwk : wrap64 ((pre.length : Int) + 1) = ((pre.length + 1 : Nat) : Int) := by unfold wrap64; omega
      have e1 : (((at_ + (encI z).length : Nat)) : Int) = (at_ : Int) + ((encI z).length : Int) := by omega
      have e2 : ((pre.length + 1 : Nat) : Int) = (pre.length : Int) + 1 := by omega
      have END : Hid (∀ w7, Below W.heap.size W w7 → ChEnd w b6 w5.heap.size L m (.slice (some ad) m c') zs W (pre ++ [(at_, v)]) ((w7.setCell ⟨b6 + 1, 0, none⟩ (.int .i64 ((at_ : Int) + ((encI z).length : Int)))).setCell ⟨b6, 0, none⟩ (.int .i64 ((pre.length : Int) + 1)))) := Lib.hid (fun w7 hb => by
        have h := chEnd (w := w) (b6 := b6) (hi := w5.heap.size) (m := m) (sv := .slice (some ad) m c') (zs := zs) hb HBW.out hbs HP.out HY.out hkm HSL.out HM.out (by omega) hb5
        rw [e1, e2] at h
        exact h)
      rw [e1] at hwr
      have HWR := Lib.hid hwr
      clear e1 e2 hwr hwk
      rcases Int.lt_or_le z 0 with hz0 | hz0
      · have hv0 : v = 0 := by omega
        subst hv0
        clear hv
        by_cases hx : xp = at_ ∧ xv = 0
        · obtain ⟨rfl, rfl⟩ := hx
          gi_wp2
          gi_cut [] from 10 (fun wx => ∃ w7, Below W.heap.size W w7 ∧ wx = w7.setCell ⟨b6 + 1, 0, none⟩ (.int .i64 ((xp : Int) + ((encI z).length : Int))))
          case first =>
            have hwr := HWR.out
            clear HWR
            gi_region_with_o (refine ⟨trivial, ?_⟩; gi_at_call 17; refine (CallsIn.inRound l (callsIn_wide.2 (size_any z _ hzb))).mono ?_; rintro e w7 ⟨rfl, hb⟩; have s6 := pw_cell_below hb p6; have s7 := pw_cell_below hb p7; have s2 := pw_cell_below hb p2; have t7 : w7.frozen? ⟨b6 + 1, 0, none⟩ = false := (hb.frozen (p := ⟨b6 + 1, 0, none⟩) hlt7).trans r7)
            all_goals gi_wp2
            all_goals gi_meet
            all_goals (case rel => exact ⟨_, (Below.refl _ W).drew.trans hb, rfl⟩)
          case rest =>
            obtain ⟨w7, hb, rfl⟩ := hcut
            have s6 := pw_cell_below hb p6
            have u6 : (w7.setCell ⟨b6 + 1, 0, none⟩ (.int .i64 ((xp : Int) + ((encI z).length : Int)))).cell? ⟨b6, 0, none⟩ = some (.int .i64 (pre.length : Nat)) := (World.cell?_setCell_other _ _ _ _ (by intro e; injection e with e; omega)).trans s6
            have t6 : (w7.setCell ⟨b6 + 1, 0, none⟩ (.int .i64 ((xp : Int) + ((encI z).length : Int)))).frozen? ⟨b6, 0, none⟩ = false := (by rw [World.frozen?_setCell]; exact (hb.frozen (p := ⟨b6, 0, none⟩) hlt6).trans r6)
            gi_wp2
            exact END.out w7 hb
        · have hno : ¬ pre ++ [(xp, xv)] <+: L := by
            intro hpp
            have := prefix_is hpp HY.out
            injection this with e1 e2
            exact hx ⟨e1, e2⟩
          have HNo := Lib.hid hno
          have c4' : Below w.heap.size w (W.setCell ⟨w.heap.size + 1, 0, none⟩ (.bool false)) := HBW.out.setCell (p := ⟨w.heap.size + 1, 0, none⟩) (show w.heap.size ≤ w.heap.size + 1 by omega) _
          have HC4 := Lib.hid c4'
          clear hno c4'
          by_cases hxa : xp = at_
          · have hxv : ¬ xv = 0 := fun e => hx ⟨hxa, e⟩
            have hxb : (xv != 0) = true := by simpa using hxv
            subst hxa
            gi_wp2
            exact ⟨keepsFrom_set _ _, .inr ⟨rfl, HNo.out⟩, HC4.out⟩
          · have hxb : ((xp : Int) != (at_ : Int)) = true := by rw [bne_iff_ne]; omega
            gi_wp2
            exact ⟨keepsFrom_set _ _, .inr ⟨rfl, HNo.out⟩, HC4.out⟩
      · have hv0 : v = z := by omega
        subst hv0
        clear hv
        by_cases hx : xp = at_ ∧ xv = v
        · obtain ⟨rfl, rfl⟩ := hx
          gi_wp2
          gi_cut [] from 10 (fun wx => ∃ w7, Below W.heap.size W w7 ∧ wx = w7.setCell ⟨b6 + 1, 0, none⟩ (.int .i64 ((xp : Int) + ((encI xv).length : Int))))
          case first =>
            have hwr := HWR.out
            clear HWR
            gi_region_with_o (refine ⟨trivial, ?_⟩; gi_at_call 17; refine (CallsIn.inRound l (callsIn_wide.2 (size_any xv _ hzb))).mono ?_; rintro e w7 ⟨rfl, hb⟩; have s6 := pw_cell_below hb p6; have s7 := pw_cell_below hb p7; have s2 := pw_cell_below hb p2; have t7 : w7.frozen? ⟨b6 + 1, 0, none⟩ = false := (hb.frozen (p := ⟨b6 + 1, 0, none⟩) hlt7).trans r7)
            all_goals gi_wp2
            all_goals gi_meet
            all_goals (case rel => exact ⟨_, (Below.refl _ W).drew.trans hb, rfl⟩)
          case rest =>
            obtain ⟨w7, hb, rfl⟩ := hcut
            have s6 := pw_cell_below hb p6
            have u6 : (w7.setCell ⟨b6 + 1, 0, none⟩ (.int .i64 ((xp : Int) + ((encI xv).length : Int)))).cell? ⟨b6, 0, none⟩ = some (.int .i64 (pre.length : Nat)) := (World.cell?_setCell_other _ _ _ _ (by intro e; injection e with e; omega)).trans s6
            have t6 : (w7.setCell ⟨b6 + 1, 0, none⟩ (.int .i64 ((xp : Int) + ((encI xv).length : Int)))).frozen? ⟨b6, 0, none⟩ = false := (by rw [World.frozen?_setCell]; exact (hb.frozen (p := ⟨b6, 0, none⟩) hlt6).trans r6)
            gi_wp2
            exact END.out w7 hb
        · have hno : ¬ pre ++ [(xp, xv)] <+: L := by
            intro hpp
            have := prefix_is hpp HY.out
            injection this with e1 e2
            exact hx ⟨e1, e2⟩
          have HNo := Lib.hid hno
          have c4' : Below w.heap.size w (W.setCell ⟨w.heap.size + 1, 0, none⟩ (.bool false)) := HBW.out.setCell (p := ⟨w.heap.size + 1, 0, none⟩) (show w.heap.size ≤ w.heap.size + 1 by omega) _
          have HC4 := Lib.hid c4'
          clear hno c4'
          by_cases hxa : xp = at_
          · have hxv : ¬ xv = v := fun e => hx ⟨hxa, e⟩
            have hxb : (xv != v) = true := by simpa using hxv
            subst hxa
            gi_wp2
            exact ⟨keepsFrom_set _ _, .inr ⟨rfl, HNo.out⟩, HC4.out⟩
          · have hxb : ((xp : Int) != (at_ : Int)) = true := by rw [bne_iff_ne]; omega
            gi_wp2
            exact ⟨keepsFrom_set _ _, .inr ⟨rfl, HNo.out⟩, HC4.out⟩
  case done =>
    rintro D ys W hD rfl ⟨⟨hp, hl, hbs, hM⟩, hB⟩ hK
    have eL : ys.length = m := by omega
    rw [eL, List.take_of_length_le (Nat.le_of_eq hzl)] at hM
    obtain ⟨p6, r6, p7, r7, p2, p4, r4⟩ := hM
    have hlt4 := World.block_lt_of_cell? _ _ p4
    dsimp only at hlt4
    have hsub : ((((encAll zs).length + n : Nat) : Int) - (n : Int)) = ((encAll zs).length : Int) := by omega
    go_wp2
    have hK' := (KeepsOthers.setCell W ⟨w.heap.size + 1, 0, none⟩ (.bool true)).same D _ hK rfl
    refine ⟨by simp, .inl ⟨_, _, rfl, run_takeDeferred hK', ?_⟩⟩
    have hc5 := cell_kept (World.cell?_setCell_same' W ⟨w.heap.size + 1, 0, none⟩ (.bool true) (by rw [p4]; rfl)) (grownBy_putObj' _ D (.deferred none)) (fun r e => by cases e; exact ⟨_, hK', rfl⟩)
    refine ⟨.bool true, ?_, rfl, (hB.setCell (p := ⟨w.heap.size + 1, 0, none⟩) (show w.heap.size ≤ w.heap.size + 1 by omega) _).trans (belowK_b (w := w) (Nat.le_refl _) _ D _ _ (by omega) hK' rfl rfl)⟩
    simp [results, Try.f8, go_sem, hc5]
  case stop =>
    rintro D c pre W hD hSp ⟨hIx, hB⟩ hK
    rcases hIx with ⟨rfl, hM⟩ | ⟨rfl, hno⟩
    · obtain ⟨p6, r6, p7, r7, p2, p4, r4⟩ := hM
      have hlt4 := World.block_lt_of_cell? _ _ p4
      dsimp only at hlt4
      have hsub : ((((encAll zs).length + n : Nat) : Int) - (n : Int)) = ((encAll zs).length : Int) := by omega
      gi_wp2
      go_wp2
      have hK' := (KeepsOthers.setCell W ⟨w.heap.size + 1, 0, none⟩ (.bool true)).same D _ hK rfl
      refine ⟨by simp, .inl ⟨_, _, rfl, run_takeDeferred hK', ?_⟩⟩
      have hc5 := cell_kept (World.cell?_setCell_same' W ⟨w.heap.size + 1, 0, none⟩ (.bool true) (by rw [p4]; rfl)) (grownBy_putObj' _ D (.deferred none)) (fun r e => by cases e; exact ⟨_, hK', rfl⟩)
      refine ⟨.bool true, ?_, rfl, (hB.setCell (p := ⟨w.heap.size + 1, 0, none⟩) (show w.heap.size ≤ w.heap.size + 1 by omega) _).trans (belowK_b (w := w) (Nat.le_refl _) _ D _ _ (by omega) hK' rfl rfl)⟩
      simp [results, Try.f8, go_sem, hc5]
    · exact absurd hSp hno
end Go.Proofs.Ytlbhmbbmpmhcjaa.packl
