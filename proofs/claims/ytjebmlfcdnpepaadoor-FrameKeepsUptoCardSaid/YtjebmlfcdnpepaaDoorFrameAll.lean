/- What frame.All answers: the payloads, each in memory of its own. -/
import Derived.Test.YtjebmlfcdnpepaaDoorFrameLaws1
import Derived.RangeFuncBox
set_option linter.unusedVariables false
set_option linter.unusedSimpArgs false
namespace Go.Proofs.YtjebmlfcdnpepaaDoor.framea
open Go.RowKit Go.Shelf Go.Proofs.YtjebmlfcdnpepaaDoorW.PrintWords Go.Proofs.YtjebmlfcdnpepaaDoor.base Go.Proofs.YtjebmlfcdnpepaaDoor.mem Go.Proofs.YtjebmlfcdnpepaaDoor.crcp Go.Proofs.YtjebmlfcdnpepaaDoor.crcw Go.Proofs.YtjebmlfcdnpepaaDoor.samew Go.Proofs.YtjebmlfcdnpepaaDoor.keep Go.Proofs.YtjebmlfcdnpepaaDoor.framep Go.Proofs.YtjebmlfcdnpepaaDoor.framew Go.Proofs.YtjebmlfcdnpepaaDoor.frameit Go.Proofs.YtjebmlfcdnpepaaDoor.framem Go.Proofs.YtjebmlfcdnpepaaDoor.framel Go.Proofs.YtjebmlfcdnpepaaDoor.over
attribute [local go_sem] Oper.semAt_some

/-! ### plain -/
def payK (xs : List Int) (k : Nat × Nat) : List Int := (xs.drop (k.1 + 8)).take k.2
/-- the payloads of the good frames -/
def pays (xs : List Int) : List (List Int) := (flist xs).map (payK xs)
theorem pays_of {xs : List Int} {ys : List It} (h : ys.map It.key = flist xs) : ys.map (pay xs) = pays xs := by
  unfold pays
  rw [← h, List.map_map]
  rfl
theorem fitems_len : ∀ (f p : Nat) (xs : List Int), (fitems f p xs).length * 8 ≤ xs.length := by
  intro f
  induction f with
  | zero => intro p xs; simp [fitems]
  | succ f ih =>
    intro p xs
    by_cases h : firstN xs = 0
    · rw [fitems_end _ _ _ h]; simp
    · rw [fitems_next _ _ _ h, List.length_cons]
      have h1 := ih (p + firstN xs) (xs.drop (firstN xs))
      have h2 := firstN_le xs
      have h3 := firstN_ge xs h
      rw [List.length_drop] at h1
      omega
theorem flist_len (xs : List Int) : (flist xs).length * 8 ≤ xs.length := fitems_len _ _ _
theorem V.lt {xs : List Int} {B : Nat} {pre : List It} {x : It} {W : World} (h : V xs B pre x W) : pre.length < (flist xs).length := by
  have h1 := h.1.length_le
  simp at h1
  omega
/-! ### slices of the call's own, each in its own block -/
structure Rws (W : World) (base : Nat) (cells : List Value) (xss : List (List Int)) : Prop where
  len : cells.length = xss.length
  at_ : ∀ j, j < xss.length → ∃ a m c, cells[j]? = some (.slice a m c) ∧ OwB W base a m c (xss.getD j [])
  apart : ∀ (i j g : Nat) (a : Option Addr) (m c : Nat) (a' : Option Addr) (m' c' : Nat), cells[i]? = some (Value.slice a m c) → cells[j]? = some (Value.slice a' m' c') → (Value.slice a m c).ownBlock = some g → (Value.slice a' m' c').ownBlock = some g → i = j
theorem Rws.nil (W : World) (base : Nat) : Rws W base [] [] := ⟨rfl, fun j hj => absurd hj (by simp), fun i j g a m c a' m' c' h => by simp at h⟩
theorem Rws.map {W W' : World} {base : Nat} {cells : List Value} {xss : List (List Int)} (h : Rws W base cells xss) (hw : ∀ a m c ys, OwB W base a m c ys → OwB W' base a m c ys) : Rws W' base cells xss :=
  ⟨h.len, fun j hj => by obtain ⟨a, m, c, h1, h2⟩ := h.at_ j hj; exact ⟨a, m, c, h1, hw _ _ _ _ h2⟩, h.apart⟩
theorem Rws.snoc {W0 W : World} {base B : Nat} {cells : List Value} {xss : List (List Int)} (h0 : Rws W0 base cells xss) (h : Rws W base cells xss) (hB : W0.heap.size ≤ B) (hb : base ≤ B) {a : Option Addr} {m c : Nat} {ys : List Int} (hy : OwB W B a m c ys) :
    Rws W base (cells ++ [.slice a m c]) (xss ++ [ys]) := by
  have hold : ∀ (i g : Nat) (a' : Option Addr) (m' c' : Nat), cells[i]? = some (Value.slice a' m' c') → (Value.slice a' m' c').ownBlock = some g → g < B := by
    intro i g a' m' c' hi hg
    have hlt : i < xss.length := by rw [← h0.len]; exact (List.getElem?_eq_some_iff.1 hi).1
    obtain ⟨a2, m2, c2, h1, h2⟩ := h0.at_ i hlt
    rw [hi] at h1
    injection h1 with h1
    injection h1 with e1 e2 e3
    subst e1 e2 e3
    exact Nat.lt_of_lt_of_le (OwB.blk h2 g hg).2 hB
  have hnew : ∀ g, (Value.slice a m c).ownBlock = some g → B ≤ g := fun g hg => (OwB.blk hy g hg).1
  refine ⟨by simp [h.len], fun j hj => ?_, ?_⟩
  · rcases Nat.lt_or_ge j xss.length with hlt | hge
    · obtain ⟨a', m', c', h1, h2⟩ := h.at_ j hlt
      refine ⟨a', m', c', by rw [List.getElem?_append_left (by rw [h.len]; exact hlt)]; exact h1, ?_⟩
      rw [List.getD_eq_getElem?_getD, List.getElem?_append_left hlt, ← List.getD_eq_getElem?_getD]; exact h2
    · obtain rfl : j = xss.length := by simp at hj; omega
      refine ⟨a, m, c, by rw [← h.len]; simp, ?_⟩
      simpa [List.getD_eq_getElem?_getD] using hy.less hb
  · intro i j g a1 m1 c1 a2 m2 c2 hi hj gi gj
    rcases Nat.lt_or_ge i cells.length with hil | hil <;> rcases Nat.lt_or_ge j cells.length with hjl | hjl
    · rw [List.getElem?_append_left hil] at hi
      rw [List.getElem?_append_left hjl] at hj
      exact h.apart i j g _ _ _ _ _ _ hi hj gi gj
    · rw [List.getElem?_append_left hil] at hi
      have h1 := hold i g _ _ _ hi gi
      obtain rfl : j = cells.length := by
        have := (List.getElem?_eq_some_iff.1 hj).1
        simp at this
        omega
      simp at hj
      obtain ⟨rfl, rfl, rfl⟩ := hj
      have := hnew g gj
      omega
    · rw [List.getElem?_append_left hjl] at hj
      have h1 := hold j g _ _ _ hj gj
      obtain rfl : i = cells.length := by
        have := (List.getElem?_eq_some_iff.1 hi).1
        simp at this
        omega
      simp at hi
      obtain ⟨rfl, rfl, rfl⟩ := hi
      have := hnew g gi
      omega
    · have h1 := (List.getElem?_eq_some_iff.1 hi).1
      have h2 := (List.getElem?_eq_some_iff.1 hj).1
      simp at h1 h2
      omega
theorem Rws.of {W : World} {base : Nat} {cells : List Value} {xss : List (List Int)} (h : Rws W base cells xss) : RowsOf W cells xss :=
  ⟨h.len, fun j hj => by obtain ⟨a, m, c, h1, h2⟩ := h.at_ j hj; exact ⟨a, m, c, h1, h2.cap, h2.rd⟩⟩
/-- what is no block of bytes may turn -/
theorem OwB.keptT {w w' : World} {base n c : Nat} {A : Option Addr} {ys : List Int} (h : OwB w base A n c ys) {row : Option Nat} (hg : w.grownBy w' row) (hr : ∀ r, row = some r → ∀ cur, w.heap[r]? ≠ some (.cells cur 5 (0, 0))) : OwB w' base A n c ys := by
  refine ⟨h.1.kept hg ?_, h.2⟩
  rcases h.1.2 with ⟨hv, _⟩ | ⟨g, cap, cur, hv, _, hb, _, _, _⟩
  · injection hv with h1 _ _
    subst h1
    exact .inl rfl
  · injection hv with h1 _ _
    subst h1
    exact .inr fun e => hr g e.symm cur hb
theorem OwV.row {w : World} {base n c : Nat} {A : Option Addr} {cells : List Value} (h : OwV w base A n c cells) : ∀ r, (Value.slice A n c).ownBlock = some r → ∀ cur, w.heap[r]? ≠ some (.cells cur 5 (0, 0)) := by
  intro r hr cur he
  rcases h.2 with ⟨hv, _⟩ | ⟨g, cap, cur', hv, _, hb, _, _, _⟩
  · rw [hv] at hr; cases hr
  · rw [hv] at hr
    injection hr with hr
    have hr : g = r := hr
    subst hr
    rw [hb] at he
    injection he with he
    injection he with _ he _
    revert he
    decide
theorem Boxed.row {W : World} {B : Nat} {t : TypeId} {v : Value} (h : Boxed W B t v) (ht : t ≠ 5) : ∀ r, some B = some r → ∀ cur, W.heap[r]? ≠ some (.cells cur 5 (0, 0)) := by
  rintro r ⟨⟩ cur he
  rw [show W.heap[B]? = _ from h] at he
  injection he with he
  injection he with _ he _
  exact ht he
theorem OwB.ck {w w' : World} {base n c : Nat} {A : Option Addr} {ys : List Int} (h : OwB w base A n c ys) (hk : CK w w') : OwB w' base A n c ys := by
  refine ⟨⟨h.1.1, ?_⟩, h.2⟩
  rcases h.1.2 with hv | ⟨g, cap, cur, hv, h1, hb, h2⟩
  · exact .inl hv
  · exact .inr ⟨g, cap, cur, hv, h1, hk.2 _ _ hb rfl, h2⟩
theorem OwV.ck {w w' : World} {base n c : Nat} {A : Option Addr} {cells : List Value} (h : OwV w base A n c cells) (hk : CK w w') : OwV w' base A n c cells := by
  refine ⟨h.1, ?_⟩
  rcases h.2 with hv | ⟨g, cap, cur, hv, h1, hb, h2⟩
  · exact .inl hv
  · exact .inr ⟨g, cap, cur, hv, h1, hk.2 _ _ hb rfl, h2⟩
theorem OwV.kept {w w' : World} {base n c : Nat} {A : Option Addr} {cells : List Value} (h : OwV w base A n c cells) {row : Option Nat} (hg : w.grownBy w' row) (hr : ∀ r, row = some r → ∃ o : Obj, w.heap[r]? = some o ∧ o.isCells = false) : OwV w' base A n c cells := by
  refine World.ownsRow.kept h hg ?_
  rcases h.2 with ⟨hv, _⟩ | ⟨g, cap, cur, hv, _, hb, _, _, _⟩
  · rw [hv]; exact .inl rfl
  · rw [hv]
    refine .inr fun e => ?_
    obtain ⟨o, ho, hc⟩ := hr g e.symm
    rw [hb] at ho
    injection ho with ho
    subst ho
    cases hc
theorem Boxed.ck {W W' : World} {B : Nat} {t : TypeId} {v : Value} (h : Boxed W B t v) (hk : CK W W') : Boxed W' B t v := hk.2 _ _ h rfl
theorem KT.of {n0 lo hi : Nat} {W W' : World} (hb : Below n0 W W') (hg : 0 < n0) (hband : Band lo hi W W') : KT lo hi W W' :=
  ⟨hband, fun t i hi => by rw [← t i hi]; exact World.cell?_of_block (hb.block _ hg), hb.size⟩
/-- a slice of slices in a box -/
def BoxV (base b : Nat) (cells : List Value) (W : World) : Prop := ∃ A n c, Boxed W b 29 (.slice A n c) ∧ OwV W base A n c cells
set_option maxHeartbeats 2000000 in
set_option maxRecDepth 100000 in
theorem all_any (A : Option Addr) (n c : Nat) (xs : List Int) (w : World) (hr : RdB w A n xs) (hn : n ≤ 1099511627776) (ht : Table w) :
    Calls Tryd.prog 16 #[.slice A n c] w fun e w' => ∃ A1 n1 c1 cells, e = .returned (.slice A1 n1 c1) ∧ OwV w' w.heap.size A1 n1 c1 cells ∧ Rws w' w.heap.size cells (pays xs) ∧ Below w.heap.size w w' := by
  have HR := Lib.hid hr
  have HT := Lib.hid ht
  have hg := Table.lt ht
  have hlen := hr.len
  have hfl := flist_len xs
  rw [hlen] at hfl
  have B1 := Lib.hid (below_alloc (Below.refl w.heap.size w) (.cells #[.slice none 0 0] 29))
  have hs1 := B1.out.size
  have hz1 : (w.alloc (.cells #[.slice none 0 0] 29)).heap.size = w.heap.size + 1 := by simp
  have bO := Boxed.new w 29 (.slice none 0 0)
  obtain ⟨i0, hi, hzz⟩ := Option.map_eq_some_iff.1 infoS
  simp only [Prod.mk.injEq] at hzz
  obtain ⟨hz0, hz1', hz2⟩ := hzz
  clear hr ht
  refine (callsIn_wide (n := 6)).1 ?_
  refine callsIn_of_wp_marks Tryd.func16 rfl trivial ?_ rfl
  simp only [Tryd.ntmps16, List.size_toArray, List.length_cons, List.length_nil, Nat.reduceAdd, Nat.reduceSub, Array.replicate_succ, Array.replicate_zero, List.push_toArray, List.append_toArray, List.nil_append, List.cons_append]
  refine wpIn_wide.2 ?_
  go_wp2_with fail
  refine (frames_any _ _ _ xs _ (HR.out.below B1.out) (by omega)).mono ?_
  rintro e w2 ⟨Bs, rfl, hN, hb⟩
  have b2 : Boxed w2 w.heap.size 29 (.slice none 0 0) := by
    show w2.heap[w.heap.size]? = _
    rw [hb.block _ (by rw [hz1]; omega)]
    exact bO
  have B2 := Lib.hid (B1.out.trans (hb.mono hs1))
  have hs2 : w.heap.size + 1 ≤ w2.heap.size := by rw [← hz1]; exact hb.size
  rw [hz1] at hN
  have HNN := all_v (6 - 1) (by decide) Bs _ _ xs w2 (Nat.le_refl _) hN (HT.out.below B2.out)
  have HT2 := Lib.hid (HT.out.below B2.out)
  clear hb hN hs1 bO
  go_wp2
  refine (wpIn_wide (n := 6)).1 ?_
  refine' wpIn_overV rfl (by decide) (gf := 24) (lb := #[.pointer (some ⟨Bs, 0, none⟩)]) rfl trivial (enters_of Tryd.func24 (by kernel_rfl) rfl) HNN (fun h k => KT.trans h k) (KT.put (Nat.le_refl _) HT2.out) (Below.refl _ _) (fun _ => rfl) (fun B => V.own B)
    (fun pre W => (∃ cells, BoxV w2.heap.size w.heap.size cells W ∧ Rws W w.heap.size cells (pre.map (pay xs))) ∧ w2.heap.size ≤ W.heap.size ∧ Below w.heap.size w W)
    (fun _ _ _ => False) ?own
    (fun _ _ _ _ _ hs _ _ => hs)
    ⟨⟨[], ⟨none, 0, 0, b2, OwV.nil _ _⟩, Rws.nil _ _⟩, Nat.le_refl _, B2.out⟩ _ ?assign ?body ?done ?stop
  case own =>
    rintro pre W W' row ⟨⟨cells, ⟨A1, n1, c1, hb, ho⟩, hR⟩, hz, hB⟩ hg hr
    refine ⟨⟨cells, ⟨A1, n1, c1, hb.kept hg ?_, OwV.kept ho hg fun r e => (hr r e).2⟩, hR.map fun a m c ys h => OwB.kept h hg fun r e => (hr r e).2⟩, Nat.le_trans hz hg.size, ?_⟩
    · intro e
      obtain ⟨_, o, ho, hc⟩ := hr _ e.symm
      rw [show W.heap[w.heap.size]? = _ from hb] at ho
      injection ho with ho
      subst ho
      cases hc
    · exact hB.grown hg (by omega) (fun j e => by have := (hr j e).1; omega)
  case assign =>
    intro l x W K hK
    gi_wp2
    exact hK
  case body =>
    rintro l pre x W0 W ⟨⟨cells, ⟨A1, n1, c1, hb0, ho0⟩, hR0⟩, hz0', hB0⟩ ⟨_, hzW, hBW⟩ hle hck hV
    have hx := V.lt hV
    have hVo := hV.2
    have hb := Boxed.ck hb0 hck
    have ho := OwV.ck ho0 hck
    have hR := hR0.map fun a m c ys h => OwB.ck h hck
    have hcl := ho.len
    have hcl2 := hR0.len
    rw [List.length_map] at hcl2
    have hc := hb.cell
    have HE : Hid (∀ (A2 : Option Addr) (n2 c2 : Nat) (w1 : World), OwV w1 w2.heap.size A2 n2 c2 (cells ++ [.slice x.A x.n x.c]) → (W.alloc (.cells #[.slice x.A x.n x.c] 22)).grownBy w1 (Value.slice A1 n1 c1).ownBlock →
        (w1.cell? ⟨w.heap.size, 0, none⟩ = some (.slice A1 n1 c1) ∧ w1.frozen? ⟨w.heap.size, 0, none⟩ = false) ∧ ownPostG w2.heap.size (KT (w.heap.size + 1) w2.heap.size) (fun pre W => (∃ cells, BoxV w2.heap.size w.heap.size cells W ∧ Rws W w.heap.size cells (pre.map (pay xs))) ∧ w2.heap.size ≤ W.heap.size ∧ Below w.heap.size w W) (fun _ _ _ => False) (pre ++ [x]) W .normal { tmps := #[], defers := [] } (w1.setCell ⟨w.heap.size, 0, none⟩ (.slice A2 n2 c2))) := Lib.hid (by
      intro A2 n2 c2 w1 ho1 hg1
      obtain ⟨hv1, hv2, hr2, hk2, hb2⟩ := hb.appended (n₀ := w.heap.size) (by decide) (own_less ho (by omega)) hBW.size (Nat.le_refl _) (own_less ho1 (by omega)) hg1
      have hr3 : OwV (w1.setCell ⟨w.heap.size, 0, none⟩ (.slice A2 n2 c2)) w2.heap.size A2 n2 c2 (cells ++ [.slice x.A x.n x.c]) := World.ownsRow.kept ho1 (grownBy_setCell' w1 _ _) (.inr (hv1.not_row (by decide) ho1).symm)
      have hKT : KT (w.heap.size + 1) w2.heap.size W (w1.setCell ⟨w.heap.size, 0, none⟩ (.slice A2 n2 c2)) := by
        refine KT.of hb2 hg ⟨Nat.le_trans hzW hb2.size, fun i a b => ?_⟩
        rw [Below.heap_setCell _ _ _ i (by show i ≠ w.heap.size; omega), hg1.block i (by simp; omega) ?_, Below.heap_alloc _ _ _ (by omega)]
        intro e
        have := own_base ho i e.symm
        omega
      refine ⟨⟨hv1.cell, hv1.frozen⟩, hk2.from _, hKT, ⟨_, ⟨A2, n2, c2, hv2, hr3⟩, ?_⟩, Nat.le_trans hzW hb2.size, hBW.trans hb2⟩
      have hstep : ∀ a m c ys b, OwB W b a m c ys → OwB (w1.setCell ⟨w.heap.size, 0, none⟩ (.slice A2 n2 c2)) b a m c ys := fun a m c ys b h =>
        OwB.keptT (OwB.keptT (h.alloc _) hg1 (OwV.row (own_alloc ho _))) (grownBy_setCell' _ _ _) (Boxed.row hv1 (by decide))
      rw [List.map_append]
      exact hR0.snoc (hR.map fun a m c ys h => hstep a m c ys _ h) (Nat.le_refl _) (Nat.le_trans (by omega) hle) (hstep _ _ _ _ _ hVo))
    have hpc : cells.length = pre.length := by simpa using hcl2
    obtain ⟨p, A5, n5, c5, hp5, hn5⟩ := x
    dsimp only at HE
    gi_wp2_with (gi_at_builtin; refine wpListIn_append_own _ rfl _ _ 29 rfl w2.heap.size 22 i0 (.slice none 0 0) 1 24 Tryd.underlying29 hi hz0 hz1' hz2 rfl (by decide) _ _ _ rfl (own_alloc ho _) ⟨W.heap.size, 0, none⟩ 1 1 [.slice A5 n5 c5] rfl rfl (cell_one_new _ _ _) (by simp [Value.oneCell']) (by simp only [maxLen]; omega) (by omega) (by simp; omega) ?_; intro v' w1 hown' hgrow _; obtain ⟨g', cap', rfl⟩ := ownsRow_succ hown'; obtain ⟨⟨hc1, hf1⟩, HP⟩ := HE.out _ _ _ _ hown' hgrow)
    exact HP
  case done =>
    rintro D ys W hD hS ⟨⟨cells, ⟨A1, n1, c1, hb, ho⟩, hR⟩, hz, hB⟩ hK
    have ho : OwV W w.heap.size A1 n1 c1 cells := own_less ho (by omega)
    rw [pays_of hS] at hR
    have hc := hb.cell
    have HB := Lib.hid hB
    have HO := Lib.hid ho
    have HR := Lib.hid hR
    clear hS hB ho hR
    go_wp2
    refine ⟨by simp, .inl ⟨_, _, rfl, run_takeDeferred hK, ?_⟩⟩
    exact ⟨_, results_tmp rfl _ _ _, A1, n1, c1, cells, rfl, ownsRow_putObj HO.out _ hK rfl, HR.out.map (fun a m c ys h => ⟨ownsRow_putObj h.1 _ hK rfl, h.2⟩), HB.out.trans (belowK_b (w := w) (Nat.le_refl _) W D _ _ (by omega) hK rfl rfl)⟩
  case stop =>
    rintro D c pre W _ _ h _
    exact h.elim
end Go.Proofs.YtjebmlfcdnpepaaDoor.framea
