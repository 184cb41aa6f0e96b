/- What vault.look computes; and what is proved besides: see the words ahead of each part. -/
import Derived.Sort.CutIn
import Derived.BigRegion
import Derived.Test.YtfinaikgikifcaaDoorVaultDoesMg2
set_option linter.unusedVariables false
set_option linter.unusedSimpArgs false
/- What vault.look computes. -/
namespace Go.Proofs.YtfinaikgikifcaaDoor.vaultl
open Go.RowKit Go.Shelf Go.Proofs.YtfinaikgikifcaaDoorW.PrintWords Go.Proofs.YtfinaikgikifcaaDoor.base Go.Proofs.YtfinaikgikifcaaDoor.mem Go.Proofs.YtfinaikgikifcaaDoor.keep Go.Proofs.YtfinaikgikifcaaDoor.crcp Go.Proofs.YtfinaikgikifcaaDoor.crcw Go.Proofs.YtfinaikgikifcaaDoor.samew Go.Proofs.YtfinaikgikifcaaDoor.framep Go.Proofs.YtfinaikgikifcaaDoor.framew Go.Proofs.YtfinaikgikifcaaDoor.frameit Go.Proofs.YtfinaikgikifcaaDoor.framem Go.Proofs.YtfinaikgikifcaaDoor.framel Go.Proofs.YtfinaikgikifcaaDoor.framea Go.Proofs.YtfinaikgikifcaaDoor.framer Go.Proofs.YtfinaikgikifcaaDoor.framen Go.Proofs.YtfinaikgikifcaaDoor.framek Go.Proofs.YtfinaikgikifcaaDoor.diskp Go.Proofs.YtfinaikgikifcaaDoor.diskr Go.Proofs.YtfinaikgikifcaaDoor.diskw Go.Proofs.YtfinaikgikifcaaDoor.vaultp Go.Proofs.YtfinaikgikifcaaDoor.vaultw Go.Proofs.YtfinaikgikifcaaDoor.over
attribute [local go_sem] Oper.semAt_some

/-- a slice cut out of one of the call's own -/
def Snap (W : World) (base : Nat) (A : Option Addr) (n c : Nat) (xs : List Int) : Prop :=
  ∃ (k : Nat) (A0 : Option Addr) (n0 c0 : Nat) (ys : List Int), OwB W base A0 n0 c0 ys ∧ (∀ (W' : World) (zs : List Int), RdB W' A0 n0 zs → RdB W' A n (zs.drop k)) ∧ xs = ys.drop k ∧ n ≤ c
section
variable {W W' : World} {base n c : Nat} {A : Option Addr} {xs : List Int}
theorem Snap.map (h : Snap W base A n c xs) (hw : ∀ a m c ys, OwB W base a m c ys → OwB W' base a m c ys) : Snap W' base A n c xs := by
  obtain ⟨k, A0, n0, c0, ys, h1, h2⟩ := h
  exact ⟨k, A0, n0, c0, ys, hw _ _ _ _ h1, h2⟩
theorem Snap.below (h : Snap W base A n c xs) (hb : Below W.heap.size W W') : Snap W' base A n c xs := h.map fun _ _ _ _ ho => ho.below hb
theorem Snap.less {b : Nat} (h : Snap W base A n c xs) (hb : b ≤ base) : Snap W b A n c xs := by
  obtain ⟨k, A0, n0, c0, ys, h1, h2⟩ := h
  exact ⟨k, A0, n0, c0, ys, h1.less hb, h2⟩
theorem Snap.rd (h : Snap W base A n c xs) : RdB W A n xs := by
  obtain ⟨k, A0, n0, c0, ys, h1, h2, rfl, _⟩ := h
  exact h2 W ys h1.rd
theorem Snap.cap (h : Snap W base A n c xs) : n ≤ c := by
  obtain ⟨k, A0, n0, c0, ys, h1, h2, _, h3⟩ := h
  exact h3
theorem Snap.own (h : OwB W base A n c xs) : Snap W base A n c xs := ⟨0, A, n, c, xs, h, fun _ _ h => h, rfl, h.cap⟩
end
/-- what was read of a file, in its box -/
def KS (W : World) (lo lo2 kb : Nat) (x : Int × List Int × List (List Int)) (size en : Int) : Prop :=
  ∃ A n c B m c2 cells, W.heap[kb]? = some (.cells #[.int .i64 x.1, .slice A n c, .slice B m c2, .int .i64 size, .int .i64 en] 66 (0, 0)) ∧ Snap W lo A n c x.2.1 ∧ OwV W lo2 B m c2 cells ∧ Rws W lo cells x.2.2
def RetK (w : World) (xs : List Int) (e : Ending) (w' : World) : Prop :=
  ∃ A n c B m c2 cells, e = .returned (.tuple #[keptV (lookF xs).1 A n c B m c2 (xs.length : Nat) (E xs : Nat), .int .i64 0]) ∧ Snap w' w.heap.size A n c (lookF xs).2.1 ∧ OwV w' w.heap.size B m c2 cells ∧ Rws w' w.heap.size cells (lookF xs).2.2 ∧ Below w.heap.size w w'
section
variable {W W' : World} {lo lo2 kb : Nat} {x : Int × List Int × List (List Int)} {size en : Int}
theorem KS.kept (h : KS W lo lo2 kb x size en) {row : Option Nat} (hg : W.grownBy W' row) (hr : ∀ r, row = some r → ∃ o : Obj, W.heap[r]? = some o ∧ o.isCells = false) : KS W' lo lo2 kb x size en := by
  obtain ⟨A, n, c, B, m, c2, cells, h1, h2, h3, h4⟩ := h
  refine ⟨A, n, c, B, m, c2, cells, ?_, h2.map fun a m c ys h => OwB.kept h hg hr, OwV.kept h3 hg hr, h4.map fun a m c ys h => OwB.kept h hg hr⟩
  rw [hg.block kb (Array.getElem?_eq_some_iff.1 h1).1 (fun e => ?_)]
  · exact h1
  · obtain ⟨o, ho, hc⟩ := hr _ e.symm
    rw [h1] at ho
    injection ho with ho
    subst ho
    cases hc
theorem KS.ck (h : KS W lo lo2 kb x size en) (hk : CK W W') : KS W' lo lo2 kb x size en := by
  obtain ⟨A, n, c, B, m, c2, cells, h1, h2, h3, h4⟩ := h
  exact ⟨A, n, c, B, m, c2, cells, hk.2 _ _ h1 rfl, h2.map fun a m c ys h => OwB.ck h hk, OwV.ck h3 hk, h4.map fun a m c ys h => OwB.ck h hk⟩
end
theorem box_cells {W : World} {kb : Nat} {v0 v1 v2 v3 v4 : Value} {t : TypeId} (h : W.heap[kb]? = some (.cells #[v0, v1, v2, v3, v4] t (0, 0))) :
    (W.cell? ⟨kb, 0, none⟩ = some v0 ∧ W.cell? ⟨kb, 1, none⟩ = some v1 ∧ W.cell? ⟨kb, 2, none⟩ = some v2 ∧ W.cell? ⟨kb, 3, none⟩ = some v3 ∧ W.cell? ⟨kb, 4, none⟩ = some v4) ∧ ∀ i, W.frozen? ⟨kb, i, none⟩ = false := by
  refine ⟨?_, fun i => ?_⟩
  · unfold World.cell?
    simp [h]
  · unfold World.frozen?
    simp [h]
def RB (b : Nat) (W : World) : Prop := W.heap[b]? = some (.cells #[.int .i64 0, .slice none 0 0, .slice none 0 0, .int .i64 0, .int .i64 0] 66 (0, 0))
theorem RB.kept {b : Nat} {W W' : World} {row : Option Nat} (h1 : RB b W) (hg : W.grownBy W' row) (hr : ∀ r, row = some r → ∃ o : Obj, W.heap[r]? = some o ∧ o.isCells = false) : RB b W' := by
  have h2 : W.heap[b]? = _ := h1
  show W'.heap[b]? = _
  rw [hg.block _ (Array.getElem?_eq_some_iff.1 h2).1 (fun e => ?_)]
  · exact h2
  · obtain ⟨o, ho, hc⟩ := hr _ e.symm
    rw [h2] at ho
    injection ho with ho
    subst ho
    cases hc
def LI (xs : List Int) (w : World) (lo2 kb : Nat) (size en : Int) (pre : List It) (W : World) : Prop :=
  ((∀ x0 r, pre = x0 :: r → goodP (pay xs x0)) ∧ KS W w.heap.size lo2 kb (lookP (pre.map (pay xs))) size en) ∧ (lo2 ≤ W.heap.size ∧ Below w.heap.size w W) ∧ RB w.heap.size W
def LX (xs : List Int) (w : World) (lo2 kb : Nat) (size en : Int) (cc : Code) (pre : List It) (W : World) : Prop :=
  ((cc = .exit 0 ∧ ∃ x, pre = [x] ∧ ¬ goodP (pay xs x)) ∧ KS W w.heap.size lo2 kb (0, [], []) size en) ∧ (lo2 ≤ W.heap.size ∧ Below w.heap.size w W) ∧ RB w.heap.size W
theorem OwB.blockK {w w' : World} {kb base n c : Nat} {A : Option Addr} {ys : List Int} {cs : Array Value} (h : OwB w base A n c ys) (hb : ∀ g, g ≠ kb → w'.heap[g]? = w.heap[g]?) (hk : w.heap[kb]? = some (.cells cs 66 (0, 0))) : OwB w' base A n c ys := by
  refine ⟨⟨h.1.1, ?_⟩, h.2⟩
  rcases h.1.2 with hv | ⟨g, cap, cur, hv, h1, h2, h3⟩
  · exact .inl hv
  · refine .inr ⟨g, cap, cur, hv, h1, ?_, h3⟩
    rw [hb g (fun e => ?_)]
    · exact h2
    · subst e
      rw [hk] at h2
      injection h2 with h2
      injection h2 with _ h2 _
      revert h2
      decide
theorem OwV.blockK {w w' : World} {kb base n c : Nat} {A : Option Addr} {cells : List Value} {cs : Array Value} (h : OwV w base A n c cells) (hb : ∀ g, g ≠ kb → w'.heap[g]? = w.heap[g]?) (hk : w.heap[kb]? = some (.cells cs 66 (0, 0))) : OwV w' base A n c cells := by
  refine ⟨h.1, ?_⟩
  rcases h.2 with hv | ⟨g, cap, cur, hv, h1, h2, h3⟩
  · exact .inl hv
  · refine .inr ⟨g, cap, cur, hv, h1, ?_, h3⟩
    rw [hb g (fun e => ?_)]
    · exact h2
    · subst e
      rw [hk] at h2
      injection h2 with h2
      injection h2 with _ h2 _
      revert h2
      decide
theorem endOf_pos {x0 : It} {r : List It} : 8 ≤ endOf (x0 :: r) := by
  unfold endOf
  unfold endL
  rw [List.map_cons]
  cases hl : ((x0.key) :: r.map It.key).getLast? with
  | none => simp at hl
  | some y => simp; omega
theorem endOf_nil : endOf [] = 0 := rfl
theorem app_keeps {W w1 : World} {base m c : Nat} {B : Option Addr} {cells : List Value} {tmp : Obj} (hrow : OwV W base B m c cells) (hgrow : (W.alloc tmp).grownBy w1 (Value.slice B m c).ownBlock) (q : Addr) (v : Value) : KeepsOthers W (w1.setCell q v) := by
  refine ((KeepsOthers.alloc W tmp).trans (KeepsOthers.of_grownBy hgrow fun j o ej hj => ?_)).trans (KeepsOthers.setCell _ _ _)
  rcases (own_alloc hrow tmp).2 with ⟨hv, _⟩ | ⟨g, cap, cur, hv, _, hgb, _⟩
  · rw [hv] at ej; simp [Value.ownBlock] at ej
  · rw [hv] at ej
    obtain rfl : g = j := by simpa [Value.ownBlock] using ej
    rw [hgb] at hj; cases hj; rfl
theorem box_row {W : World} {kb : Nat} {cs : Array Value} (h : W.heap[kb]? = some (.cells cs 66 (0, 0))) : ∀ r, some kb = some r → ∀ cur, W.heap[r]? ≠ some (.cells cur 5 (0, 0)) := by
  rintro r ⟨⟩ cur he
  rw [h] at he
  injection he with he
  injection he with _ he _
  revert he
  decide
theorem box_notV {W : World} {kb base m c : Nat} {B : Option Addr} {cells : List Value} {cs : Array Value} (h : W.heap[kb]? = some (.cells cs 66 (0, 0))) (hv : OwV W base B m c cells) : (Value.slice B m c).ownBlock ≠ some kb := by
  intro e
  rcases hv.2 with ⟨hv2, _⟩ | ⟨g, cap, cur, hv2, _, hgb, _⟩
  · rw [hv2] at e; cases e
  · rw [hv2] at e
    obtain rfl : g = kb := by simpa [Value.ownBlock] using e
    rw [h] at hgb
    injection hgb with hgb
    injection hgb with _ e2 _
    revert e2
    decide
theorem box_put {W : World} {kb : Nat} {cs : Array Value} {t : TypeId} (h : W.heap[kb]? = some (.cells cs t (0, 0))) (i : Nat) (v : Value) : (W.setCell ⟨kb, i, none⟩ v).heap[kb]? = some (.cells (cs.setIfInBounds i v) t (0, 0)) := by
  obtain ⟨hlt, hk⟩ := Array.getElem?_eq_some_iff.1 h
  show (W.heap.modify kb _)[kb]? = _
  rw [Array.getElem?_eq_getElem (by rw [Array.size_modify]; exact hlt), Array.getElem_modify_self, hk]
  rfl
set_option maxHeartbeats 4000000 in
set_option maxRecDepth 100000 in
theorem look_any {w : World} {base p : Nat} {cs : Nat → Sl} {d : D} (h : DAt w base p cs d) (hs : Small d.b) (f : Nat) (hf : f < 2) (hoff : d.off = false) (hn : (P (fileB d f)).length ≤ 5864062014804) (ht : Table w) :
    Calls Tryd.prog 33 #[.pointer (some ⟨p, 0, none⟩), .int .i64 f] w (RetK w (fileB d f)) := by
  have HR := Lib.hid (fun W (hb : Below w.heap.size w W) => read_any (h.below hb) hs (f : Int))
  have HRE : Hid (readR d (f : Int) = (fileB d f, 0)) := Lib.hid (by
    unfold readR rdy
    rw [hoff, if_neg (show ¬ ((f : Int) < 0 ∨ 1 < (f : Int)) by omega)]
    rfl)
  have hfl : (fileB d f).length ≤ 140737488355328 := by
    unfold fileB
    rw [List.length_append]
    have h0 := hs (2 * f) (by omega)
    have h1 := hs (2 * f + 1) (by omega)
    omega
  rw [HRE.out] at HR
  have HT := Lib.hid ht
  have hg := Table.lt ht
  clear h hs hoff HRE ht
  generalize fileB d f = xs at HR hfl hn ⊢
  have HLK : Hid (lookF xs = lookP (P xs)) := Lib.hid rfl
  have HPP := Lib.hid (pays_P xs)
  have hfn : (flist xs).length ≤ 5864062014804 := by rw [← pays_len, HPP.out]; exact hn
  have B1 := Lib.hid (below_alloc (Below.refl w.heap.size w) (.cells #[.int .i64 0, .slice none 0 0, .slice none 0 0, .int .i64 0, .int .i64 0] 66))
  have hs1 := B1.out.size
  have hz1 : (w.alloc (.cells #[.int .i64 0, .slice none 0 0, .slice none 0 0, .int .i64 0, .int .i64 0] 66)).heap.size = w.heap.size + 1 := by simp
  have hb1 : (w.alloc (.cells #[.int .i64 0, .slice none 0 0, .slice none 0 0, .int .i64 0, .int .i64 0] 66)).heap[w.heap.size]? = some (.cells #[.int .i64 0, .slice none 0 0, .slice none 0 0, .int .i64 0, .int .i64 0] 66 (0, 0)) := World.alloc_heap_new w _
  obtain ⟨i0, hi, hzz⟩ := Option.map_eq_some_iff.1 infoS
  simp only [Prod.mk.injEq] at hzz
  obtain ⟨hz0, hz1', hz2⟩ := hzz
  refine (callsIn_wide (n := 6)).1 ?_
  refine callsIn_of_wp_marks Tryd.func33 rfl trivial ?_ rfl
  simp only [Tryd.ntmps33, List.size_toArray, List.length_cons, List.length_nil, Nat.reduceAdd, Nat.reduceSub, Array.replicate_succ, Array.replicate_zero, List.push_toArray, List.append_toArray, List.nil_append, List.cons_append]
  refine wpIn_wide.2 ?_
  go_wp2_with fail
  refine (HR.out _ B1.out).mono ?_
  rintro e w2 ⟨A2, n2, c2, rfl, ho, hb⟩
  have hl2 := ho.len
  have hb2 : w2.heap[w.heap.size]? = some (.cells #[.int .i64 0, .slice none 0 0, .slice none 0 0, .int .i64 0, .int .i64 0] 66 (0, 0)) := (hb.block w.heap.size (by rw [hz1]; omega)).trans hb1
  have B2 := Lib.hid (B1.out.trans (hb.mono hs1))
  have hs2 : w.heap.size + 1 ≤ w2.heap.size := by rw [← hz1]; exact hb.size
  have HO2 := Lib.hid ho
  clear ho hb hb1 hz1 hs1
  go_wp2_with fail
  refine (end_any A2 n2 c2 xs w2 HO2.out.rd (by omega) (HT.out.below B2.out)).mono ?_
  rintro e w3 ⟨rfl, hb⟩
  have HEE := Lib.hid (end_E xs)
  rw [end_E]
  have hEl := E_le xs
  have hb3 := (hb.block w.heap.size (by omega)).trans hb2
  have B3 := Lib.hid (B2.out.trans (hb.mono (by omega)))
  have hs3 := hb.size
  have HO3 := Lib.hid (HO2.out.below hb)
  generalize hen : E xs = en at hEl
  have HEN := Lib.hid hen
  clear hb hb2 HO2 hen
  have hb4 : (w3.alloc (.cells #[.int .i64 0, .slice none 0 0, .slice none 0 0, .int .i64 (n2 : Nat), .int .i64 (en : Nat)] 66)).heap[w3.heap.size]? = some (.cells #[.int .i64 0, .slice none 0 0, .slice none 0 0, .int .i64 (n2 : Nat), .int .i64 (en : Nat)] 66 (0, 0)) := World.alloc_heap_new w3 _
  have B4 := Lib.hid (below_alloc (Below.refl w3.heap.size w3) (.cells #[.int .i64 0, .slice none 0 0, .slice none 0 0, .int .i64 (n2 : Nat), .int .i64 (en : Nat)] 66))
  have hz4 : (w3.alloc (.cells #[.int .i64 0, .slice none 0 0, .slice none 0 0, .int .i64 (n2 : Nat), .int .i64 (en : Nat)] 66)).heap.size = w3.heap.size + 1 := by simp
  go_wp2_with fail
  refine (frames_any A2 n2 c2 xs _ (HO3.out.rd.below B4.out) (by omega)).mono ?_
  rintro e w5 ⟨Bs, rfl, hN, hb⟩
  rw [hz4] at hN
  have hk5 := (hb.block w3.heap.size (by rw [hz4]; omega)).trans hb4
  have hr5 : RB w.heap.size w5 := (hb.block w.heap.size (by rw [hz4]; omega)).trans ((Below.heap_alloc w3 _ w.heap.size (by omega)).trans hb3)
  have B5 := Lib.hid (B3.out.trans ((B4.out.trans (hb.mono B4.out.size)).mono (by omega)))
  have hs5 : w3.heap.size + 1 ≤ w5.heap.size := by rw [← hz4]; exact hb.size
  have HN5 := Lib.hid hN
  have HT5 := Lib.hid (HT.out.below B5.out)
  have HK5 : Hid (KS w5 w.heap.size w5.heap.size w3.heap.size (0, [], []) (n2 : Nat) (en : Nat)) := Lib.hid ⟨none, 0, 0, none, 0, 0, [], hk5, Snap.own (OwB.nil _ _), OwV.nil _ _, Rws.nil _ _⟩
  have HR5 := Lib.hid hr5
  clear hN hb hb4 hz4 B4 hb3 hk5 hr5
  generalize hkb : w3.heap.size = kb at HK5 HN5 hs5 ⊢
  have hkw : w.heap.size + 1 ≤ kb := by omega
  clear hkb
  go_wp2
  refine (wpIn_wide (n := 6)).1 ?_
  refine' overF rfl HN5.out (Nat.le_refl _) HT5.out rfl
    (LI xs w w5.heap.size kb (n2 : Nat) (en : Nat))
    (LX xs w w5.heap.size kb (n2 : Nat) (en : Nat))
    (fun z W W' row hs hg hr => ⟨⟨hs.1.1, hs.1.2.kept hg fun r e => (hr r e).2⟩, ⟨Nat.le_trans hs.2.1.1 hg.size, hs.2.1.2.grown hg hs.2.1.2.size (fun j e => Nat.le_trans (by omega) (hr j e).1)⟩, hs.2.2.kept hg fun r e => (hr r e).2⟩)
    (fun cc z W W' row hs hg hr => ⟨⟨hs.1.1, hs.1.2.kept hg fun r e => (hr r e).2⟩, ⟨Nat.le_trans hs.2.1.1 hg.size, hs.2.1.2.grown hg hs.2.1.2.size (fun j e => Nat.le_trans (by omega) (hr j e).1)⟩, hs.2.2.kept hg fun r e => (hr r e).2⟩)
    ⟨⟨(fun _ _ h => by cases h), HK5.out⟩, ⟨Nat.le_refl _, B5.out⟩, HR5.out⟩
    (fun W => KS W w.heap.size w5.heap.size kb (lookF xs) (n2 : Nat) (en : Nat) ∧ (w5.heap.size ≤ W.heap.size ∧ Below w.heap.size w W) ∧ RB w.heap.size W) 0 _ ?caseA ?caseB ?caseS ?caseP ?caseF
  case caseA =>
    intro l x W K hK
    gi_wp2
    exact hK
  case caseS =>
    intro ys W hys h
    obtain ⟨⟨_, h1⟩, h2⟩ := h
    rw [pays_of hys, HPP.out] at h1
    rw [HLK.out]
    exact ⟨h1, h2⟩
  case caseP =>
    rintro cc pre W hp h
    obtain ⟨⟨⟨rfl, x, rfl, hx⟩, h1⟩, h2⟩ := h
    have h0 : lookF xs = (0, [], []) := by
      rw [HLK.out, ← HPP.out]
      obtain ⟨t, ht⟩ := hp
      unfold pays
      rw [← ht]
      exact lookP_bad _ hx
    rw [h0]
    exact ⟨rfl, ⟨h1, h2⟩, fun a w h => h⟩
  case caseB =>
    intro l pre x Wa W h0 h1 hle hck hV
    obtain ⟨⟨hg0, hk0⟩, _, _⟩ := h0
    obtain ⟨_, ⟨hzW, hBW⟩, hrW⟩ := h1
    have hlt := V.lt hV
    have hVo := hV.2
    have hpl := V.place hV
    have hk := hk0.ck hck
    have HRW := Lib.hid hrW
    cases pre with
    | nil =>
      have hp0 : x.p = 0 := by rw [hpl]; rfl
      rw [List.map_nil] at hk0
      obtain ⟨A, n, c, B, m, c3, cells, hb0, hsn0, hv0, hr0⟩ := hk0
      have hb := hck.2 _ _ hb0 rfl
      have HSN := Lib.hid (hsn0.map fun a m c ys h => OwB.ck h hck)
      have HVV := Lib.hid (OwV.ck hv0 hck)
      have HRR := Lib.hid (hr0.map fun a m c ys h => OwB.ck h hck)
      have HVO := Lib.hid hVo
      have hxl := hVo.len
      have hxc := hVo.cap
      have HBX := Lib.hid hb
      have HBW := Lib.hid hBW
      have hle5 : w5.heap.size ≤ Wa.heap.size := hle
      obtain ⟨⟨c0, c1, _⟩, hfr⟩ := box_cells hb
      have fr0 := hfr 0
      have fr1 := hfr 1
      clear hk hg0 hb0 hsn0 hv0 hr0 hb hck hV hVo hrW hBW hpl hfr hlt
      have HXX : Hid (LX xs w w5.heap.size kb (n2 : Nat) (en : Nat) (.exit 0) [x] W ∨ goodP (pay xs x)) := Lib.hid (by
        by_cases hx : goodP (pay xs x)
        · exact .inr hx
        · exact .inl ⟨⟨⟨rfl, x, rfl, hx⟩, A, n, c, B, m, c3, cells, HBX.out, HSN.out, HVV.out, HRR.out⟩, ⟨hzW, HBW.out⟩, HRW.out⟩)
      by_cases h8 : x.n < 8
      · have HX : Hid (LX xs w w5.heap.size kb (n2 : Nat) (en : Nat) (.exit 0) [x] W) := Lib.hid (by
          rcases HXX.out with h | h
          · exact h
          · have := h.1; omega)
        obtain ⟨p', A5, n5, c5, hp5, hn5⟩ := x
        dsimp only at hp0 h8 HX
        subst hp0
        gi_wp2
        exact ⟨KeepsFrom.refl _ _, HX.out⟩
      · obtain ⟨g5, hA5, _, _⟩ := HVO.out.form (by omega)
        have HYB := Lib.hid (leP_range HVO.out.2)
        have hcell : ∀ i, i < x.n → W.cell? ⟨g5, i, none⟩ = some (.int .u8 ((pay xs x).getD i 0)) := fun i hi => by
          have := HVO.out
          rw [hA5] at this
          exact (this.at_ i hi).1
        have HCELL := Lib.hid hcell
        have HBY := Lib.hid (fun i => By.getD HVO.out.2 i)
        obtain ⟨A7, n7, c7, hcut, hm1, hm2, hm3, hrd⟩ := cutL x.A x.n x.c 8 (by omega) hxc
        have hcut : ∀ W : World, (Instr.slice 22 (.slice x.A x.n x.c) (some (.int .i64 8)) none none).run Tryd.prog W = .ok (.slice A7 n7 c7) W := hcut
        have HE : Hid (goodP (pay xs x) → ∀ W', W' = ((W.setCell ⟨kb, 0, none⟩ (.int .i64 (leN (pay xs x)))).setCell ⟨kb, 1, none⟩ (.slice A7 n7 c7)).drew → ownPostG w5.heap.size (KT (kb + 1) w5.heap.size) (LI xs w w5.heap.size kb (n2 : Nat) (en : Nat)) (LX xs w w5.heap.size kb (n2 : Nat) (en : Nat)) ([] ++ [x]) W .normal { tmps := #[], defers := [] } W') := Lib.hid (by
          rintro hx W' rfl
          have hb1 := box_put HBX.out 0 (.int .i64 (leN (pay xs x)))
          have hb2 := box_put hb1 1 (.slice A7 n7 c7)
          have hB : Below w.heap.size W ((W.setCell ⟨kb, 0, none⟩ (.int .i64 (leN (pay xs x)))).setCell ⟨kb, 1, none⟩ (.slice A7 n7 c7)).drew := Below.drew <| ((Below.refl w.heap.size W).setCell (p := ⟨kb, 0, none⟩) (show w.heap.size ≤ kb by omega) _).setCell (p := ⟨kb, 1, none⟩) (show w.heap.size ≤ kb by omega) _
          have hblk : ∀ i, i ≠ kb → ((W.setCell ⟨kb, 0, none⟩ (.int .i64 (leN (pay xs x)))).setCell ⟨kb, 1, none⟩ (.slice A7 n7 c7)).heap[i]? = W.heap[i]? := fun i hi => by rw [Below.heap_setCell _ _ _ _ hi, Below.heap_setCell _ _ _ _ hi]
          have hstep : ∀ a m c ys b, OwB W b a m c ys → OwB ((W.setCell ⟨kb, 0, none⟩ (.int .i64 (leN (pay xs x)))).setCell ⟨kb, 1, none⟩ (.slice A7 n7 c7)) b a m c ys := fun a m c ys b h =>
            OwB.keptT (OwB.keptT h (grownBy_set _ kb 0 _) (box_row HBX.out)) (grownBy_set _ kb 1 _) (box_row hb1)
          have hov : OwV ((W.setCell ⟨kb, 0, none⟩ (.int .i64 (leN (pay xs x)))).setCell ⟨kb, 1, none⟩ (.slice A7 n7 c7)) w5.heap.size B m c3 cells :=
            World.ownsRow.kept (World.ownsRow.kept HVV.out (grownBy_set _ kb 0 _) (.inr (fun e => box_notV HBX.out HVV.out e))) (grownBy_set _ kb 1 _) (.inr (fun e => box_notV HBX.out HVV.out e))
          have hsz := Nat.le_trans hzW hB.size
          refine ⟨(((KeepsOthers.setCell W _ _).trans (KeepsOthers.setCell _ _ _)).trans (KeepsOthers.drew _)).from _, ?_, ⟨fun y s e => ?_, ?_⟩, ⟨hsz, HBW.out.trans hB⟩, ?_⟩
          · exact KT.of hB hg ⟨hsz, fun i a b => hblk i (by omega)⟩
          · injection e with e _
            subst e
            exact hx
          · show KS _ _ _ _ (lookP [pay xs x]) _ _
            rw [lookP_good _ hx]
            refine ⟨A7, n7, c7, B, m, c3, cells, hb2, ⟨8, x.A, x.n, x.c, pay xs x, ((hstep _ _ _ _ _ HVO.out).below (Below.refl _ _).drew).less (by omega), hrd, rfl, hm3⟩, OwV.below hov (Below.refl _ _).drew, ?_⟩
            exact HRR.out.map fun a m c ys h => (hstep a m c ys _ h).below (Below.refl _ _).drew
          · show ((W.setCell ⟨kb, 0, none⟩ (.int .i64 (leN (pay xs x)))).setCell ⟨kb, 1, none⟩ (.slice A7 n7 c7)).heap[w.heap.size]? = _
            rw [hblk _ (by omega)]
            exact HRW.out)
        have HXL := Lib.hid hxl
        obtain ⟨p', A5, n5, c5, hp5, hn5⟩ := x
        dsimp only at hp0 h8 HXX hA5 HYB HCELL HBY hcut hm1 hm2 HE HXL
        subst hp0
        subst hA5
        clear HSN HVV HRR HVO hcell hrd HBX hle5 hxl
        generalize hys : pay xs ⟨0, some ⟨g5, 0, none⟩, n5, c5, hp5, hn5⟩ = ys at HXX HYB HCELL HBY HE HXL
        clear hys
        generalize hx0 : ([] ++ [(⟨0, some ⟨g5, 0, none⟩, n5, c5, hp5, hn5⟩ : It)] : List It) = pre1 at HE
        have HX0 := Lib.hid hx0
        clear hx0
        gi_wp2
        gi_loopw [11, 43] (fun gv iv wr => ∃ k : Nat, k ≤ 8 ∧ iv = .int .i64 k ∧ gv = .int .u64 (leP ys k) ∧ W = wr) (fun _ iv _ => 8 - (intOf iv).toNat)
        case atStart => exact ⟨0, by omega, rfl, rfl, rfl⟩
        case round =>
          obtain ⟨k, hk, rfl, rfl, rfl⟩ := hrel
          by_cases hlt2 : k < 8
          · have hcl := HCELL.out k (by omega)
            have hkn : k < n5 := by omega
            obtain ⟨b0, b1⟩ := HBY.out k
            have HOR := Lib.hid (or_sh (leP ys k) (ys.getD k 0) k hlt2 (HYB.out k).1 (HYB.out k).2 b0 b1)
            have HNX : Hid (leP ys (k + 1) = leP ys k + 256 ^ k * ys.getD k 0) := Lib.hid rfl
            generalize ys.getD k 0 = b at hcl b0 b1 HOR HNX
            generalize leP ys k = v at HOR HNX
            gi_wp2
            exact ⟨⟨k + 1, by omega, by go_num, by rw [HNX.out, HOR.out], trivial⟩, by simp [intOf]; omega⟩
          · obtain rfl : k = 8 := by omega
            have h256 : (256 : Int) ^ 8 = 18446744073709551616 := by decide
            have hv := HYB.out 8
            rw [h256] at hv
            have HGD : Hid (goodP ys ↔ 1 ≤ leP ys 8 ∧ leP ys 8 ≤ 4611686018427387904) := Lib.hid ⟨fun h => h.2, fun h => ⟨by have := HXL.out; omega, h⟩⟩
            have HLN : Hid (leN ys = leP ys 8) := Lib.hid rfl
            rw [HLN.out] at HE
            clear HYB h256
            generalize leP ys 8 = v at HGD HE hv HLN
            by_cases hv1 : v < 1
            · have HX : Hid (LX xs w w5.heap.size kb (n2 : Nat) (en : Nat) (.exit 0) [⟨0, some ⟨g5, 0, none⟩, n5, c5, hp5, hn5⟩] W) := Lib.hid (by
                rcases HXX.out with h | h
                · exact h
                · have := (HGD.out.1 h).1; omega)
              have HX1 := HX
              rw [show [(⟨0, some ⟨g5, 0, none⟩, n5, c5, hp5, hn5⟩ : It)] = pre1 from HX0.out] at HX1
              gi_wp2
              exact ⟨KeepsFrom.refl _ _, HX1.out⟩
            · by_cases hv2 : 4611686018427387904 < v
              · have HX : Hid (LX xs w w5.heap.size kb (n2 : Nat) (en : Nat) (.exit 0) [⟨0, some ⟨g5, 0, none⟩, n5, c5, hp5, hn5⟩] W) := Lib.hid (by
                  rcases HXX.out with h | h
                  · exact h
                  · have := (HGD.out.1 h).2; omega)
                have HX1 := HX
                rw [show [(⟨0, some ⟨g5, 0, none⟩, n5, c5, hp5, hn5⟩ : It)] = pre1 from HX0.out] at HX1
                gi_wp2
                exact ⟨KeepsFrom.refl _ _, HX1.out⟩
              · have HWV : Hid (IntKind.i64.wrap v = v) := Lib.hid (by rw [IntKind.wrap_i64]; omega)
                have HG := Lib.hid (HE.out (HGD.out.2 ⟨by omega, by omega⟩))
                gi_wp2
                gi_region
                all_goals (refine HG.out _ ?_; rw [HWV.out])
    | cons x0 r =>
      have hgp := hg0 x0 r rfl
      have hp0 : 0 < x.p := by rw [hpl]; have := endOf_pos (x0 := x0) (r := r); omega
      rw [List.map_cons, lookP_good _ hgp] at hk hk0
      obtain ⟨A, n, c, B, m, c3, cells, hb0, hsn0, hv0, hr0⟩ := hk0
      have hb := hck.2 _ _ hb0 rfl
      have hsn := hsn0.map fun a m c ys h => OwB.ck h hck
      have hv := OwV.ck hv0 hck
      have hr := hr0.map fun a m c ys h => OwB.ck h hck
      have hcl := hv.len
      have hcl2 := hr.len
      rw [List.length_map] at hcl2
      rw [List.length_cons] at hlt
      have hmb : m ≤ 5864062014802 := by omega
      have HE : Hid (∀ (A6 : Option Addr) (n6 c6 : Nat) (w1 : World), OwV w1 w5.heap.size A6 n6 c6 (cells ++ [.slice x.A x.n x.c]) → (W.alloc (.cells #[.slice x.A x.n x.c] 22)).grownBy w1 (Value.slice B m c3).ownBlock →
          (w1.cell? ⟨kb, 2, none⟩ = some (.slice B m c3) ∧ w1.frozen? ⟨kb, 2, none⟩ = false) ∧ ownPostG w5.heap.size (KT (kb + 1) w5.heap.size) (LI xs w w5.heap.size kb (n2 : Nat) (en : Nat))
            (LX xs w w5.heap.size kb (n2 : Nat) (en : Nat)) (x0 :: r ++ [x]) W .normal { tmps := #[], defers := [] } (w1.setCell ⟨kb, 2, none⟩ (.slice A6 n6 c6))) := Lib.hid (by
        intro A6 n6 c6 w1 ho1 hg1
        have hnv := box_notV hb hv
        have hbv : ∀ j, (Value.slice B m c3).ownBlock = some j → w5.heap.size ≤ j := fun j hj => (OwV.blk hv j hj).1
        have hb1 : w1.heap[kb]? = _ := (hg1.block kb (by simp; omega) (fun e => hnv e.symm)).trans ((Below.heap_alloc W _ kb (by omega)).trans hb)
        have hr1 : w1.heap[w.heap.size]? = _ := (hg1.block w.heap.size (by simp; omega) (fun e => by have := hbv _ e.symm; omega)).trans ((Below.heap_alloc W _ w.heap.size (by omega)).trans HRW.out)
        have hB1 : Below w.heap.size W (w1.setCell ⟨kb, 2, none⟩ (.slice A6 n6 c6)) := (((Below.refl w.heap.size W).alloc (by omega) _).grown hg1 (by simp; omega) fun j ej => by have := hbv j ej; omega).setCell (p := ⟨kb, 2, none⟩) (show w.heap.size ≤ kb by omega) _
        have hstep : ∀ a m c ys b, OwB W b a m c ys → OwB (w1.setCell ⟨kb, 2, none⟩ (.slice A6 n6 c6)) b a m c ys := fun a m c ys b h =>
          OwB.keptT (OwB.keptT (h.alloc _) hg1 (OwV.row (own_alloc hv _))) (grownBy_set _ kb 2 _) (box_row hb1)
        have hov : OwV (w1.setCell ⟨kb, 2, none⟩ (.slice A6 n6 c6)) w5.heap.size A6 n6 c6 (cells ++ [.slice x.A x.n x.c]) := World.ownsRow.kept ho1 (grownBy_set w1 kb 2 _) (.inr (fun e => box_notV hb1 ho1 e))
        have hsz : w5.heap.size ≤ (w1.setCell ⟨kb, 2, none⟩ (.slice A6 n6 c6)).heap.size := Nat.le_trans hzW hB1.size
        refine ⟨⟨(box_cells hb1).1.2.2.1, (box_cells hb1).2 2⟩, (app_keeps hv hg1 _ _).from _, ?_, ⟨fun y s e => ?_, ?_⟩, ⟨hsz, hBW.trans hB1⟩, ?_⟩
        · refine KT.of hB1 hg ⟨hsz, fun i a b => ?_⟩
          rw [Below.heap_setCell _ _ _ i (by show i ≠ kb; omega), hg1.block i (by simp; omega) (fun e => by have := hbv _ e.symm; omega), Below.heap_alloc _ _ _ (by omega)]
        · injection e with e _
          subst e
          exact hgp
        · rw [List.map_append, List.map_cons, List.cons_append, lookP_good _ hgp]
          refine ⟨A, n, c, A6, n6, c6, _, box_put hb1 2 _, hsn.map fun a m c ys h => hstep _ _ _ _ _ h, hov, ?_⟩
          rw [List.map_singleton]
          exact hr0.snoc (hr.map fun a m c ys h => hstep a m c ys _ h) (Nat.le_refl _) (Nat.le_trans (by omega) hle) (hstep _ _ _ _ _ hVo)
        · show (w1.setCell ⟨kb, 2, none⟩ (.slice A6 n6 c6)).heap[w.heap.size]? = _
          rw [Below.heap_setCell _ _ _ _ (show w.heap.size ≠ kb by omega)]
          exact hr1)
      have hc := (box_cells hb).1.2.2.1
      have HV := Lib.hid hv
      clear hk hr0 hv0 hsn0 hb0 hsn hv hr hVo hV hck hb hgp hg0 hpl hrW hcl2 hlt
      obtain ⟨p', A5, n5, c5, hp5, hn5⟩ := x
      dsimp only at HE hp0
      gi_wp2_with (gi_at_builtin; refine wpListIn_append_own _ rfl _ _ 28 rfl w5.heap.size 22 i0 (.slice none 0 0) 1 24 Tryd.underlying28 hi hz0 hz1' hz2 rfl (by decide) _ _ _ rfl (own_alloc HV.out _) ⟨W.heap.size, 0, none⟩ 1 1 [.slice A5 n5 c5] rfl rfl (cell_one_new _ _ _) (by simp [Value.oneCell']) (by simp only [maxLen]; omega) (by omega) (by simp; omega) ?_; intro v' w1 hown' hgrow _; obtain ⟨g', cap', rfl⟩ := ownsRow_succ hown'; obtain ⟨⟨hc1, hf1⟩, HP⟩ := HE.out _ _ _ _ hown' hgrow)
      exact HP
  case caseF =>
    rintro D W hD ⟨⟨A, n, c, B, m, c3, cells, hb, hsn, hv, hr⟩, ⟨hzW, hBW⟩, hrW⟩ hK
    have hrb : W.heap[w.heap.size]? = _ := hrW
    obtain ⟨⟨e0, e1, e2, e3, e4⟩, _⟩ := box_cells hb
    obtain ⟨⟨r0, r1, r2, r3, r4⟩, hfr⟩ := box_cells hrb
    have f0 := hfr 0
    have f1 := hfr 1
    have f2 := hfr 2
    have f3 := hfr 3
    have f4 := hfr 4
    have HB := Lib.hid hb
    have HSN := Lib.hid hsn
    have HV := Lib.hid hv
    have HRR := Lib.hid hr
    have HBW := Lib.hid hBW
    have HRB := Lib.hid hrb
    clear hb hsn hv hr hBW hrW hrb hfr
    go_wp2
    clear e0 e1 e2 e3 e4 r0 r1 r2 r3 r4 f0 f1 f2 f3 f4
    have hX := box_put (box_put (box_put (box_put (box_put HRB.out 0 (.int .i64 (lookF xs).1)) 1 (.slice A n c)) 2 (.slice B m c3)) 3 (.int .i64 (n2 : Nat))) 4 (.int .i64 (en : Nat))
    have hX1 := box_put HRB.out 0 (.int .i64 (lookF xs).1)
    have hX2 := box_put hX1 1 (.slice A n c)
    have hX3 := box_put hX2 2 (.slice B m c3)
    have hX4 := box_put hX3 3 (.int .i64 (n2 : Nat))
    have hXB : Below w.heap.size W (((((W.setCell ⟨w.heap.size, 0, none⟩ (.int .i64 (lookF xs).1)).setCell ⟨w.heap.size, 1, none⟩ (.slice A n c)).setCell ⟨w.heap.size, 2, none⟩ (.slice B m c3)).setCell ⟨w.heap.size, 3, none⟩ (.int .i64 (n2 : Nat))).setCell ⟨w.heap.size, 4, none⟩ (.int .i64 (en : Nat))) :=
      (((((Below.refl w.heap.size W).setCell (p := ⟨w.heap.size, 0, none⟩) (Nat.le_refl _) _).setCell (p := ⟨w.heap.size, 1, none⟩) (Nat.le_refl _) _).setCell (p := ⟨w.heap.size, 2, none⟩) (Nat.le_refl _) _).setCell (p := ⟨w.heap.size, 3, none⟩) (Nat.le_refl _) _).setCell (p := ⟨w.heap.size, 4, none⟩) (Nat.le_refl _) _
    have hblk : ∀ i, i ≠ w.heap.size → (((((W.setCell ⟨w.heap.size, 0, none⟩ (.int .i64 (lookF xs).1)).setCell ⟨w.heap.size, 1, none⟩ (.slice A n c)).setCell ⟨w.heap.size, 2, none⟩ (.slice B m c3)).setCell ⟨w.heap.size, 3, none⟩ (.int .i64 (n2 : Nat))).setCell ⟨w.heap.size, 4, none⟩ (.int .i64 (en : Nat))).heap[i]? = W.heap[i]? := fun i hi => by
      rw [Below.heap_setCell _ _ _ _ hi, Below.heap_setCell _ _ _ _ hi, Below.heap_setCell _ _ _ _ hi, Below.heap_setCell _ _ _ _ hi, Below.heap_setCell _ _ _ _ hi]
    clear hX1 hX2 hX3 hX4
    generalize hXe : ((((W.setCell ⟨w.heap.size, 0, none⟩ (.int .i64 (lookF xs).1)).setCell ⟨w.heap.size, 1, none⟩ (.slice A n c)).setCell ⟨w.heap.size, 2, none⟩ (.slice B m c3)).setCell ⟨w.heap.size, 3, none⟩ (.int .i64 (n2 : Nat))).setCell ⟨w.heap.size, 4, none⟩ (.int .i64 (en : Nat)) = X at *
    clear hXe
    have hstep : ∀ a m c ys b, OwB W b a m c ys → OwB X b a m c ys := fun a m c ys b h => OwB.blockK h hblk HRB.out
    have hov : OwV X w.heap.size B m c3 cells := own_less (OwV.blockK HV.out hblk HRB.out) (by omega)
    have HXV := Lib.hid hov
    have HXS := Lib.hid (HSN.out.map fun a m c ys h => hstep a m c ys _ h)
    have HXR := Lib.hid (HRR.out.map fun a m c ys h => hstep a m c ys _ h)
    have HXK := Lib.hid (hblk D (by omega))
    clear hblk hstep hov
    have hK' := HXK.out.trans hK
    refine ⟨by simp, .inl ⟨_, _, rfl, run_takeDeferred hK', ?_⟩⟩
    have hXP : (X.putObj D (.deferred none)).heap[w.heap.size]? = some (.cells #[.int .i64 (lookF xs).1, .slice A n c, .slice B m c3, .int .i64 (n2 : Nat), .int .i64 (en : Nat)] 66 (0, 0)) := (World.putObj_heap_other (show w.heap.size ≠ D by omega)).trans hX
    obtain ⟨⟨x0, x1, x2, x3, x4⟩, _⟩ := box_cells hXP
    refine ⟨.tuple #[keptV (lookF xs).1 A n c B m c3 (n2 : Nat) (en : Nat), .int .i64 0], ?_, A, n, c, B, m, c3, cells, ?_, HXS.out.map (fun a m c ys h => ⟨ownsRow_putObj h.1 _ hK' rfl, h.2⟩), ownsRow_putObj HXV.out _ hK' rfl, HXR.out.map (fun a m c ys h => ⟨ownsRow_putObj h.1 _ hK' rfl, h.2⟩), (HBW.out.trans hXB).trans (belowK_b (w := w) (Nat.le_refl _) X D _ _ (by omega) hK' rfl rfl)⟩
    · unfold keptV
      simp [results, Tryd.f33, go_sem, x0, x1, x2, x3, x4]
    · rw [hl2, HEN.out]
end Go.Proofs.YtfinaikgikifcaaDoor.vaultl
/- vault.look of a disk whose power is off; what Open does: plain; the blocks of what is answered. -/
namespace Go.Proofs.YtfinaikgikifcaaDoor.vaultl
open Go.RowKit Go.Shelf Go.Proofs.YtfinaikgikifcaaDoorW.PrintWords Go.Proofs.YtfinaikgikifcaaDoor.base Go.Proofs.YtfinaikgikifcaaDoor.mem Go.Proofs.YtfinaikgikifcaaDoor.keep Go.Proofs.YtfinaikgikifcaaDoor.crcp Go.Proofs.YtfinaikgikifcaaDoor.crcw Go.Proofs.YtfinaikgikifcaaDoor.samew Go.Proofs.YtfinaikgikifcaaDoor.framep Go.Proofs.YtfinaikgikifcaaDoor.framew Go.Proofs.YtfinaikgikifcaaDoor.frameit Go.Proofs.YtfinaikgikifcaaDoor.framem Go.Proofs.YtfinaikgikifcaaDoor.framel Go.Proofs.YtfinaikgikifcaaDoor.framea Go.Proofs.YtfinaikgikifcaaDoor.framer Go.Proofs.YtfinaikgikifcaaDoor.framen Go.Proofs.YtfinaikgikifcaaDoor.framek Go.Proofs.YtfinaikgikifcaaDoor.diskp Go.Proofs.YtfinaikgikifcaaDoor.diskr Go.Proofs.YtfinaikgikifcaaDoor.diskw Go.Proofs.YtfinaikgikifcaaDoor.vaultp Go.Proofs.YtfinaikgikifcaaDoor.vaultw Go.Proofs.YtfinaikgikifcaaDoor.over
attribute [local go_sem] Oper.semAt_some


set_option maxRecDepth 100000 in
theorem look_down {w : World} {base p : Nat} {cs : Nat → Sl} {d : D} (h : DAt w base p cs d) (hs : Small d.b) (f : Nat) (hf : f < 2) (hoff : d.off = true) :
    Calls Tryd.prog 33 #[.pointer (some ⟨p, 0, none⟩), .int .i64 f] w fun e w' => e = .returned (.tuple #[keptV 0 none 0 0 none 0 0 0 0, .int .i64 40]) ∧ Below w.heap.size w w' := by
  have HR := Lib.hid (fun W (hb : Below w.heap.size w W) => read_any (h.below hb) hs (f : Int))
  have HRE : Hid (readR d (f : Int) = ([], 40)) := Lib.hid (by
    unfold readR rdy
    rw [hoff, if_neg (show ¬ ((f : Int) < 0 ∨ 1 < (f : Int)) by omega)]
    rfl)
  rw [HRE.out] at HR
  clear h hs hoff HRE
  have B1 := Lib.hid (below_alloc (Below.refl w.heap.size w) (.cells #[.int .i64 0, .slice none 0 0, .slice none 0 0, .int .i64 0, .int .i64 0] 66))
  have hs1 := B1.out.size
  have hz1 : (w.alloc (.cells #[.int .i64 0, .slice none 0 0, .slice none 0 0, .int .i64 0, .int .i64 0] 66)).heap.size = w.heap.size + 1 := by simp
  have hb1 : (w.alloc (.cells #[.int .i64 0, .slice none 0 0, .slice none 0 0, .int .i64 0, .int .i64 0] 66)).heap[w.heap.size]? = some (.cells #[.int .i64 0, .slice none 0 0, .slice none 0 0, .int .i64 0, .int .i64 0] 66 (0, 0)) := World.alloc_heap_new w _
  refine (callsIn_wide (n := 6)).1 ?_
  refine callsIn_of_wp_marks Tryd.func33 rfl trivial ?_ rfl
  simp only [Tryd.ntmps33, List.size_toArray, List.length_cons, List.length_nil, Nat.reduceAdd, Nat.reduceSub, Array.replicate_succ, Array.replicate_zero, List.push_toArray, List.append_toArray, List.nil_append, List.cons_append]
  refine wpIn_wide.2 ?_
  go_wp2_with fail
  refine (HR.out _ B1.out).mono ?_
  rintro e w2 ⟨A2, n2, c2, rfl, ho, hb⟩
  have hb2 : w2.heap[w.heap.size]? = some (.cells #[.int .i64 0, .slice none 0 0, .slice none 0 0, .int .i64 0, .int .i64 0] 66 (0, 0)) := (hb.block w.heap.size (by rw [hz1]; omega)).trans hb1
  have B2 := Lib.hid (B1.out.trans (hb.mono hs1))
  clear ho hb hb1 hz1 hs1
  have HB := Lib.hid hb2
  obtain ⟨⟨r0, r1, r2, r3, r4⟩, hfr⟩ := box_cells hb2
  have f0 := hfr 0
  have f1 := hfr 1
  have f2 := hfr 2
  have f3 := hfr 3
  have f4 := hfr 4
  clear hfr hb2
  go_wp2
  have hX := box_put (box_put (box_put (box_put (box_put HB.out 0 (.int .i64 0)) 1 (.slice none 0 0)) 2 (.slice none 0 0)) 3 (.int .i64 0)) 4 (.int .i64 0)
  obtain ⟨⟨x0, x1, x2, x3, x4⟩, _⟩ := box_cells hX
  refine ⟨.tuple #[keptV 0 none 0 0 none 0 0 0 0, .int .i64 40], ?_, rfl, ?_⟩
  · unfold keptV
    simp [results, Tryd.f33, go_sem, x0, x1, x2, x3, x4]
  · exact B2.out.trans ((((((Below.refl w.heap.size w2).setCell (p := ⟨w.heap.size, 0, none⟩) (Nat.le_refl _) _).setCell (p := ⟨w.heap.size, 1, none⟩) (Nat.le_refl _) _).setCell (p := ⟨w.heap.size, 2, none⟩) (Nat.le_refl _) _).setCell (p := ⟨w.heap.size, 3, none⟩) (Nat.le_refl _) _).setCell (p := ⟨w.heap.size, 4, none⟩) (Nat.le_refl _) _)
end Go.Proofs.YtfinaikgikifcaaDoor.vaultl
/- What the document's vault's first computes. -/
namespace Go.Proofs.YtfinaikgikifcaaDoor.vref
open Go.RowKit Go.Shelf Go.Proofs.YtfinaikgikifcaaDoorW.PrintWords Go.Proofs.YtfinaikgikifcaaDoor.base Go.Proofs.YtfinaikgikifcaaDoor.mem Go.Proofs.YtfinaikgikifcaaDoor.keep Go.Proofs.YtfinaikgikifcaaDoor.crcp Go.Proofs.YtfinaikgikifcaaDoor.crcw Go.Proofs.YtfinaikgikifcaaDoor.samew Go.Proofs.YtfinaikgikifcaaDoor.framep Go.Proofs.YtfinaikgikifcaaDoor.framew Go.Proofs.YtfinaikgikifcaaDoor.frameit Go.Proofs.YtfinaikgikifcaaDoor.framem Go.Proofs.YtfinaikgikifcaaDoor.framel Go.Proofs.YtfinaikgikifcaaDoor.framea Go.Proofs.YtfinaikgikifcaaDoor.framer Go.Proofs.YtfinaikgikifcaaDoor.framen Go.Proofs.YtfinaikgikifcaaDoor.diskp Go.Proofs.YtfinaikgikifcaaDoor.diskr Go.Proofs.YtfinaikgikifcaaDoor.diskw Go.Proofs.YtfinaikgikifcaaDoor.vaultp Go.Proofs.YtfinaikgikifcaaDoor.vaultw

theorem rfirst_any (g : Int) (hg : 0 ≤ g ∧ g ≤ 4611686018427387905) (A : Option Addr) (n c : Nat) (xs : List Int) (w : World) (hr : RdB w A n xs) (hn : n + 8 ≤ 140737488355328) :
    Calls Tryd.prog 43 #[.int .i64 g, .slice A n c] w (RetR w (firstR g xs).1 (firstR g xs).2) := by
  have HR := Lib.hid hr
  have hlen := hr.len
  clear hr
  go_enter Tryd.func43, Tryd.ntmps43
  go_wp2
  go_loopw [6, 7, 8] (fun r x i wr => ∃ (k : Nat) (y : Int) (A1 : Option Addr) (n1 c1 : Nat), k ≤ 8 ∧ i = .int .i64 k ∧ r = .slice A1 n1 c1 ∧ x = .int .u64 y ∧ 0 ≤ y ∧ y ≤ 4611686018427387905 ∧ Aside0 (y = g / 2 ^ (8 * k)) ∧ Aside0 (OwB wr w.heap.size A1 n1 c1 (leK g k)) ∧ Aside0 (Below w.heap.size w wr)) (fun _ _ i _ => 8 - (intOf i).toNat)
  case atStart => exact ⟨0, g, none, 0, 0, by omega, rfl, rfl, by go_num, by omega, by omega, ⟨by simp⟩, ⟨OwB.nil _ _⟩, ⟨Below.refl _ _⟩⟩
  case round =>
    obtain ⟨k, y, A1, n1, c1, hk, rfl, rfl, rfl, hy0, hy1, HY, HO, HB⟩ := hrel
    by_cases hlt : k < 8
    · have hs := HB.out.size
      have hl1 := HO.out.len
      rw [leK_len] at hl1
      have hk1 : n1 ≤ 8 := by omega
      clear hl1
      have HL : Hid (By [y % 256]) := Lib.hid (By_of _ fun z hz => by simp at hz; subst hz; omega)
      have HLE : Hid (leK g (k + 1) = leK g k ++ [y % 256]) := Lib.hid (by rw [leK_next, HY.out]; rfl)
      have HYN : Hid (y / 256 = g / 2 ^ (8 * (k + 1))) := Lib.hid (by rw [HY.out, Int.ediv_ediv_of_nonneg (Int.le_of_lt (Int.pow_pos (by decide))), show (8 * (k + 1)) = 8 * k + 8 from by omega, Int.pow_add]; rfl)
      have HLR := Lib.hid (litB wr (0, 0) [y % 256] (Nat.le_of_ble_eq_true rfl) HL.out)
      go_wp2_with (first | (at_builtin; refine app (w0 := w) (base := w.heap.size) rfl (.tmp 15) (.tmp 18) rfl rfl rfl (HO.out.alloc _) (HLR.out) (HB.out.alloc hs _) ?s2 ?l2 ?_; (case s2 => simp; omega); (case l2 => simp; omega); intro A2 n2 c2 w2 ho hb; have HO2 := Lib.hid ho; have HB2 := Lib.hid hb; clear ho hb) | fail)
      go_roundw
      case rel => exact ⟨k + 1, y / 256, A2, n2, c2, by omega, by go_num, rfl, by go_num, by omega, by omega, ⟨HYN.out⟩, ⟨by rw [HLE.out]; exact HO2.out⟩, ⟨HB2.out⟩⟩
      case measure => simp [intOf]; omega
    · obtain rfl : k = 8 := by omega
      have hs := HB.out.size
      have hl1 := HO.out.len
      rw [leK_len] at hl1
      subst hl1
      have HO8 : Hid (OwB wr w.heap.size A1 8 c1 (le8 g)) := Lib.hid HO.out
      have HL8 := Lib.hid (le8_len g)
      clear HO
      go_wp2_with (first | (at_builtin; refine app (w0 := w) (base := w.heap.size) rfl (.tmp 22) (.tmp 23) rfl rfl rfl (HO8.out) (HR.out.below HB.out) (HB.out) ?s3 ?l3 ?_; (case s3 => exact hs); (case l3 => omega); intro A3 n3 c3 w3 ho hb; have HO3 := Lib.hid ho; have HB3 := Lib.hid hb; have hl3 := ho.len; have hs3 := hb.size; have hc3 := ho.cap; clear ho hb) | fail)
      rw [List.length_append, HL8.out, hlen] at hl3
      have HE := Lib.hid (refencode_any A3 n3 c3 _ w3 HO3.out.rd hc3)
      unfold RetE at HE
      have HF : Hid ((if decide (n3 ≤ 1048576) = true then fenc (le8 g ++ xs) else []) = (firstR g xs).1 ∧ (if decide (n3 ≤ 1048576) = true then (0 : Int) else 3) = (firstR g xs).2) := Lib.hid (by
        unfold firstR firstB
        by_cases h : n3 ≤ 1048576
        · have h8 : 8 + xs.length ≤ 1048576 := by omega
          simp [h, h8]
        · have h8 : ¬ 8 + xs.length ≤ 1048576 := by omega
          simp [h, h8])
      rw [HF.out.1, HF.out.2] at HE
      generalize hys : (firstR g xs).1 = ys at HE
      generalize hrr : (firstR g xs).2 = r at HE
      have HY := Lib.hid hys
      have HRr := Lib.hid hrr
      clear hys hrr HF
      go_wp2_with fail
      refine HE.out.mono ?_
      rintro e w4 ⟨A4, n4, c4, rfl, ho4, hb4⟩
      have HO4 := Lib.hid ho4
      have HB4 := Lib.hid hb4
      clear ho4 hb4
      go_wp2
      refine bodyPost_ret (results_tmp2 rfl _ _ _) rfl ?_
      exact ⟨A4, n4, c4, by rw [HRr.out]; rfl, by rw [HY.out]; exact HO4.out.less hs3, HB3.out.trans (HB4.out.mono hs3)⟩
end Go.Proofs.YtfinaikgikifcaaDoor.vref
/- What Open makes of a disk: plain Lean. -/
namespace Go.Proofs.YtfinaikgikifcaaDoor.vaultp
open Go.RowKit Go.Shelf Go.Proofs.YtfinaikgikifcaaDoorW.PrintWords Go.Proofs.YtfinaikgikifcaaDoor.base Go.Proofs.YtfinaikgikifcaaDoor.mem Go.Proofs.YtfinaikgikifcaaDoor.samew Go.Proofs.YtfinaikgikifcaaDoor.framep Go.Proofs.YtfinaikgikifcaaDoor.frameit Go.Proofs.YtfinaikgikifcaaDoor.framem Go.Proofs.YtfinaikgikifcaaDoor.framel Go.Proofs.YtfinaikgikifcaaDoor.framea Go.Proofs.YtfinaikgikifcaaDoor.framer Go.Proofs.YtfinaikgikifcaaDoor.framen Go.Proofs.YtfinaikgikifcaaDoor.diskp Go.Proofs.YtfinaikgikifcaaDoor.diskr Go.Proofs.YtfinaikgikifcaaDoor.diskw

/-- a vault: its file, its generation, snapshot, records -/
structure Vt where
  f : Nat
  g : Int
  s : List Int
  r : List (List Int)
def noV : Vt := ⟨0, 0, [], []⟩
/-- what an opening does: the disk, the error, the vault -/
structure Opn where
  d : D
  e : Int
  v : Vt
/-- the file that counts -/
def pick (d : D) : Nat := if (lookF (fileB d 0)).1 < (lookF (fileB d 1)).1 then 1 else 0
/-- a new vault: steps one behind the other -/
def newR (d : D) (s : List Int) : Opn :=
  if (wipeR d 0 (fileB d 0).length).2 ≠ 0 then ⟨(wipeR d 0 (fileB d 0).length).1, (wipeR d 0 (fileB d 0).length).2, noV⟩
  else if (beginR (wipeR d 0 (fileB d 0).length).1 0 (firstB 1 s)).2 ≠ 0 then ⟨(beginR (wipeR d 0 (fileB d 0).length).1 0 (firstB 1 s)).1, (beginR (wipeR d 0 (fileB d 0).length).1 0 (firstB 1 s)).2, noV⟩
  else ⟨(wipeR (beginR (wipeR d 0 (fileB d 0).length).1 0 (firstB 1 s)).1 1 (fileB d 1).length).1, (wipeR (beginR (wipeR d 0 (fileB d 0).length).1 0 (firstB 1 s)).1 1 (fileB d 1).length).2, ⟨0, 1, s, []⟩⟩
/-- a vault that is there -/
def oldR (d : D) (f : Nat) : Opn :=
  if (wipeR d ((1 : Int) - f) (fileB d (1 - f)).length).2 ≠ 0 then ⟨(wipeR d ((1 : Int) - f) (fileB d (1 - f)).length).1, (wipeR d ((1 : Int) - f) (fileB d (1 - f)).length).2, noV⟩
  else ⟨(mendR (wipeR d ((1 : Int) - f) (fileB d (1 - f)).length).1 f (E (fileB d f) : Nat) (fileB d f).length).1, (mendR (wipeR d ((1 : Int) - f) (fileB d (1 - f)).length).1 f (E (fileB d f) : Nat) (fileB d f).length).2, ⟨f, (lookF (fileB d f)).1, (lookF (fileB d f)).2.1, (lookF (fileB d f)).2.2⟩⟩
def openR (d : D) (s : List Int) : Opn :=
  if 1048576 < 8 + s.length then ⟨d, 3, noV⟩
  else if d.off then ⟨d, 40, noV⟩
  else if (lookF (fileB d (pick d))).1 = 0 then newR d s
  else oldR d (pick d)
theorem Ok.openR {d : D} {S N : Nat} (h : Ok d S N) (s : List Int) : Ok (openR d s).d (S + 1048584) (N + 4) := by
  unfold vaultp.openR
  split
  · exact h.more (by omega) (by omega)
  · rename_i hs
    split
    · exact h.more (by omega) (by omega)
    · split
      · unfold newR
        have hb : (firstB 1 s).length ≤ 1048584 := by unfold firstB; rw [fenc_len, List.length_append, le8_len]; omega
        split
        · exact (Ok.wipe h 0 _).more (by omega) (by omega)
        · split
          · exact (Ok.begin_ (Ok.wipe h 0 _) 0 (firstB 1 s)).more (by omega) (by omega)
          · exact (Ok.wipe (Ok.begin_ (Ok.wipe h 0 _) 0 (firstB 1 s)) 1 _).more (by omega) (by omega)
      · unfold oldR
        split
        · exact (Ok.wipe h _ _).more (by omega) (by omega)
        · exact (Ok.mend (Ok.wipe h _ _) _ _ _).more (by omega) (by omega)
end Go.Proofs.YtfinaikgikifcaaDoor.vaultp
/- What vault.Open computes. -/
namespace Go.Proofs.YtfinaikgikifcaaDoor.vaulto
open Go.RowKit Go.Shelf Go.Proofs.YtfinaikgikifcaaDoorW.PrintWords Go.Proofs.YtfinaikgikifcaaDoor.base Go.Proofs.YtfinaikgikifcaaDoor.mem Go.Proofs.YtfinaikgikifcaaDoor.keep Go.Proofs.YtfinaikgikifcaaDoor.crcp Go.Proofs.YtfinaikgikifcaaDoor.crcw Go.Proofs.YtfinaikgikifcaaDoor.samew Go.Proofs.YtfinaikgikifcaaDoor.framep Go.Proofs.YtfinaikgikifcaaDoor.framew Go.Proofs.YtfinaikgikifcaaDoor.frameit Go.Proofs.YtfinaikgikifcaaDoor.framem Go.Proofs.YtfinaikgikifcaaDoor.framel Go.Proofs.YtfinaikgikifcaaDoor.framea Go.Proofs.YtfinaikgikifcaaDoor.framer Go.Proofs.YtfinaikgikifcaaDoor.framen Go.Proofs.YtfinaikgikifcaaDoor.framek Go.Proofs.YtfinaikgikifcaaDoor.diskp Go.Proofs.YtfinaikgikifcaaDoor.diskr Go.Proofs.YtfinaikgikifcaaDoor.diskw Go.Proofs.YtfinaikgikifcaaDoor.vaultp Go.Proofs.YtfinaikgikifcaaDoor.vaultw Go.Proofs.YtfinaikgikifcaaDoor.over Go.Proofs.YtfinaikgikifcaaDoor.vaultl
attribute [local go_sem] Oper.semAt_some


/-- where what is answered lies -/
structure Got (P : Nat → Prop) (w : World) (base : Nat) (A : Option Addr) (n c : Nat) (xs : List Int) (B : Option Addr) (m e : Nat) (cells : List Value) (xss : List (List Int)) : Prop where
  snap : ∃ (k : Nat) (A0 : Option Addr) (n0 c0 : Nat) (ys : List Int), OwB w base A0 n0 c0 ys ∧ (∀ (W' : World) (zs : List Int), RdB W' A0 n0 zs → RdB W' A n (zs.drop k)) ∧ xs = ys.drop k ∧ n ≤ c ∧ ∀ j, (Value.slice A0 n0 c0).ownBlock = some j → P j
  rows : OwV w base B m e cells
  head : ∀ j, (Value.slice B m e).ownBlock = some j → P j
  each : Rws w base cells xss
  lies : ∀ (i j : Nat) (a : Option Addr) (n c : Nat), cells[i]? = some (Value.slice a n c) → (Value.slice a n c).ownBlock = some j → P j
section
variable {P Q : Nat → Prop} {w w1 : World} {base n c m e : Nat} {A B : Option Addr} {xs : List Int} {cells : List Value} {xss : List (List Int)}
theorem Got.of (h1 : Snap w base A n c xs) (h2 : OwV w base B m e cells) (h3 : Rws w base cells xss) : Got (fun j => base ≤ j ∧ j < w.heap.size) w base A n c xs B m e cells xss := by
  obtain ⟨k, A0, n0, c0, ys, q1, q2, q3, q4⟩ := h1
  refine ⟨⟨k, A0, n0, c0, ys, q1, q2, q3, q4, fun j hj => OwB.blk q1 j hj⟩, h2, fun j hj => OwV.blk h2 j hj, h3, fun i j a n c hi hj => ?_⟩
  obtain ⟨a', m', c', e', ho⟩ := h3.at_ i (by rw [← h3.len]; exact (List.getElem?_eq_some_iff.1 hi).1)
  rw [hi] at e'
  cases e'
  exact OwB.blk ho j hj
theorem Got.mono (h : Got P w base A n c xs B m e cells xss) (hq : ∀ j, P j → Q j) : Got Q w base A n c xs B m e cells xss := by
  obtain ⟨k, A0, n0, c0, ys, q1, q2, q3, q4, q5⟩ := h.snap
  exact ⟨⟨k, A0, n0, c0, ys, q1, q2, q3, q4, fun j hj => hq j (q5 j hj)⟩, h.rows, fun j hj => hq j (h.head j hj), h.each, fun i j a n c hi hj => hq j (h.lies i j a n c hi hj)⟩
theorem own_kp {w w1 : World} {B n c : Nat} {A : Option Addr} {xs : List Int} {P : Nat → Prop} (h : OwB w B A n c xs) (hk : Kp P w w1) (hp : ∀ j, (Value.slice A n c).ownBlock = some j → P j) : OwB w1 B A n c xs := by
  refine ⟨⟨h.1.1, ?_⟩, h.2⟩
  rcases h.1.2 with hv | ⟨g, cap, cur, hv, h1, h2, h3⟩
  · exact .inl hv
  · refine .inr ⟨g, cap, cur, hv, h1, ?_, h3⟩
    rw [hk.2 g (hp g (by rw [hv]; rfl)) (Array.getElem?_eq_some_iff.1 h2).1]
    exact h2
theorem ownV_kp {w w1 : World} {B n c : Nat} {A : Option Addr} {cells : List Value} {P : Nat → Prop} (h : OwV w B A n c cells) (hk : Kp P w w1) (hp : ∀ j, (Value.slice A n c).ownBlock = some j → P j) : OwV w1 B A n c cells := by
  refine ⟨h.1, ?_⟩
  rcases h.2 with hv | ⟨g, cap, cur, hv, h1, h2, h3⟩
  · exact .inl hv
  · refine .inr ⟨g, cap, cur, hv, h1, ?_, h3⟩
    rw [hk.2 g (hp g (by rw [hv]; rfl)) (Array.getElem?_eq_some_iff.1 h2).1]
    exact h2
theorem Got.kp (h : Got P w base A n c xs B m e cells xss) (hk : Kp P w w1) : Got P w1 base A n c xs B m e cells xss := by
  obtain ⟨k, A0, n0, c0, ys, q1, q2, q3, q4, q5⟩ := h.snap
  refine ⟨⟨k, A0, n0, c0, ys, own_kp q1 hk q5, q2, q3, q4, q5⟩, ownV_kp h.rows hk h.head, h.head, ⟨h.each.len, fun j hj => ?_, h.each.apart⟩, h.lies⟩
  obtain ⟨a, m', c', e', ho⟩ := h.each.at_ j hj
  exact ⟨a, m', c', e', own_kp ho hk fun i hi => h.lies j i a m' c' e' hi⟩
theorem Got.less {b : Nat} (h : Got P w base A n c xs B m e cells xss) (hb : b ≤ base) : Got P w b A n c xs B m e cells xss := by
  obtain ⟨k, A0, n0, c0, ys, q1, q2, q3, q4, q5⟩ := h.snap
  refine ⟨⟨k, A0, n0, c0, ys, q1.less hb, q2, q3, q4, q5⟩, own_less h.rows hb, h.head, ⟨h.each.len, fun j hj => ?_, h.each.apart⟩, h.lies⟩
  obtain ⟨a, m', c', e', ho⟩ := h.each.at_ j hj
  exact ⟨a, m', c', e', ho.less hb⟩
theorem Got.rd (h : Got P w base A n c xs B m e cells xss) : RdB w A n xs := by
  obtain ⟨k, A0, n0, c0, ys, q1, q2, rfl, _⟩ := h.snap
  exact q2 w ys q1.rd
theorem Got.rds (h : Got P w base A n c xs B m e cells xss) (hm : m ≤ 9223372036854775807) : RdBB w B m xss := OwV.rd h.rows h.each.of hm
end
/-- behind Open -/
def RetOp (w : World) (base p : Nat) (cs : Nat → Sl) (r : Opn) (new : Prop) (e : Ending) (w' : World) : Prop :=
  (r.e ≠ 0 ∧ e = .returned (.tuple #[.pointer none, .slice none 0 0, .slice none 0 0, .int .i64 r.e]) ∧ DPost w base p cs r.d w') ∨
  (r.e = 0 ∧ ∃ q A n c B m c2 cells cs', e = .returned (.tuple #[.pointer (some ⟨q, 0, none⟩), .slice A n c, .slice B m c2, .int .i64 0]) ∧ DAt w' base p cs' r.d ∧ DStep w base p cs w' cs' ∧ VB w' q p r.v.f r.v.g (r.v.r.length : Nat) 0 ∧ (w.heap.size ≤ q ∧ ¬ Ft p cs' q) ∧
    Got (fun j => w.heap.size ≤ j ∧ ¬ Ft p cs' j ∧ j ≠ q) w' w.heap.size A n c r.v.s B m c2 cells r.v.r ∧ (new → OwB w' w.heap.size A n c r.v.s ∧ ∀ j, (Value.slice A n c).ownBlock = some j → w.heap.size ≤ j ∧ ¬ Ft p cs' j ∧ j ≠ q))
def fcells (x0 x1 : Int × List Int × List (List Int)) (A0 A1 B0 B1 : Option Addr) (n0 c0 m0 e0 n1 c1 m1 e1 : Nat) (z0 l0 z1 l1 : Nat) : Array Value :=
  #[.int .i64 x0.1, .slice A0 n0 c0, .slice B0 m0 e0, .int .i64 (z0 : Nat), .int .i64 (l0 : Nat), .int .i64 x1.1, .slice A1 n1 c1, .slice B1 m1 e1, .int .i64 (z1 : Nat), .int .i64 (l1 : Nat)]
theorem fbox {W : World} {b : Nat} {v0 v1 v2 v3 v4 v5 v6 v7 v8 v9 : Value} {t : TypeId} (h : W.heap[b]? = some (.cells #[v0, v1, v2, v3, v4, v5, v6, v7, v8, v9] t (0, 0))) :
    (W.cell? ⟨b, 0, none⟩ = some v0 ∧ W.cell? ⟨b, 1, none⟩ = some v1 ∧ W.cell? ⟨b, 2, none⟩ = some v2 ∧ W.cell? ⟨b, 3, none⟩ = some v3 ∧ W.cell? ⟨b, 4, none⟩ = some v4 ∧ W.cell? ⟨b, 5, none⟩ = some v5 ∧ W.cell? ⟨b, 6, none⟩ = some v6 ∧ W.cell? ⟨b, 7, none⟩ = some v7 ∧ W.cell? ⟨b, 8, none⟩ = some v8 ∧ W.cell? ⟨b, 9, none⟩ = some v9) ∧ ∀ i, W.frozen? ⟨b, i, none⟩ = false := by
  refine ⟨?_, fun i => ?_⟩
  · unfold World.cell?
    simp [h]
  · unfold World.frozen?
    simp [h]
theorem OwB.blockT {w w' : World} {kb base n c : Nat} {A : Option Addr} {ys : List Int} {cs : Array Value} {t : TypeId} (ht : t ≠ 5) (h : OwB w base A n c ys) (hb : ∀ g, g ≠ kb → w'.heap[g]? = w.heap[g]?) (hk : w.heap[kb]? = some (.cells cs t (0, 0))) : OwB w' base A n c ys := by
  refine ⟨⟨h.1.1, ?_⟩, h.2⟩
  rcases h.1.2 with hv | ⟨g, cap, cur, hv, h1, h2, h3⟩
  · exact .inl hv
  · refine .inr ⟨g, cap, cur, hv, h1, ?_, h3⟩
    rw [hb g (fun e => ?_)]
    · exact h2
    · subst e
      rw [hk] at h2
      injection h2 with h2
      injection h2 with _ h2 _
      exact ht h2
theorem results_tmp4 {fn : Func} {t u v x : Tmp} (h : fn.results = #[.tmp t, .tmp u, .tmp v, .tmp x]) (tmps : Array Value) (P : Program) (w : World) :
    (results fn tmps).run P w = .ok (.tuple #[tmps.getD t undef, tmps.getD u undef, tmps.getD v undef, tmps.getD x undef]) w := by
  simp [results, h]
theorem after_kb {w wx wy : World} {base p kb : Nat} {cs csx : Nat → Sl} {d : D} (H : DAt wx base p csx d) (S : DStep w base p cs wx csx) (hkb : w.heap.size ≤ kb) (hn : ¬ Ft p csx kb) (hblk : ∀ i, i ≠ kb → i < wx.heap.size → wy.heap[i]? = wx.heap[i]?) (hbel : Below base wx wy) : DAt wy base p csx d ∧ DStep w base p cs wy csx :=
  ⟨H.blocks fun g hg => hblk g (fun e => hn (e ▸ hg)) (H.ft hg).2, ⟨Nat.le_trans S.keep.1 hbel.size, fun i hi hlt => (hblk i (by omega) (Nat.lt_of_lt_of_le hlt S.keep.1)).trans (S.keep.2 i hi hlt)⟩, S.foot, S.bel.trans hbel⟩
theorem set5_blk (W : World) (b : Nat) (v0 v1 v2 v3 v4 : Value) {j : Nat} : ∀ i, i ≠ b → (((((W.setCell ⟨b, j, none⟩ v0).setCell ⟨b, j + 1, none⟩ v1).setCell ⟨b, j + 2, none⟩ v2).setCell ⟨b, j + 3, none⟩ v3).setCell ⟨b, j + 4, none⟩ v4).heap[i]? = W.heap[i]? := fun i hi => by
  rw [Below.heap_setCell _ _ _ _ hi, Below.heap_setCell _ _ _ _ hi, Below.heap_setCell _ _ _ _ hi, Below.heap_setCell _ _ _ _ hi, Below.heap_setCell _ _ _ _ hi]
theorem set5_below (W : World) (n b j : Nat) (hb : n ≤ b) (v0 v1 v2 v3 v4 : Value) : Below n W (((((W.setCell ⟨b, j, none⟩ v0).setCell ⟨b, j + 1, none⟩ v1).setCell ⟨b, j + 2, none⟩ v2).setCell ⟨b, j + 3, none⟩ v3).setCell ⟨b, j + 4, none⟩ v4) :=
  (((((Below.refl n W).setCell (p := ⟨b, j, none⟩) hb _).setCell (p := ⟨b, j + 1, none⟩) hb _).setCell (p := ⟨b, j + 2, none⟩) hb _).setCell (p := ⟨b, j + 3, none⟩) hb _).setCell (p := ⟨b, j + 4, none⟩) hb _
set_option maxHeartbeats 4000000 in
set_option maxRecDepth 100000 in
theorem open_on {w : World} {base p : Nat} {cs : Nat → Sl} {d : D} {S N : Nat} (h : DAt w base p cs d) (hk : Ok d S N) (A : Option Addr) (n c : Nat) (s : List Int) (hsn : ∀ (w' : World) (cs' : Nat → Sl), DStep w base p cs w' cs' → RdB w' A n s) (hn : 8 + s.length ≤ 1048576) (hS : S + 1048584 ≤ 70368744177664) (hN : N + 4 ≤ 4611686018427387904) (hoff : d.off = false)
    (hp0 : (P (fileB d 0)).length ≤ 5864062014804) (hp1 : (P (fileB d 1)).length ≤ 5864062014804) (ht : Table w) :
    Calls Tryd.prog 11 #[.pointer (some ⟨p, 0, none⟩), .slice A n c] w (RetOp w base p cs (openR d s) ((lookF (fileB d (vaultp.pick d))).1 = 0)) := by
  have hr := hsn w cs (DStep.refl _ _ _ _)
  have hl := hr.len
  have HSN := Lib.hid hsn
  have HF := Lib.hid (first_any 1 (by omega) A n c s w hr (by omega) ht)
  have HFR : Hid (firstR 1 s = (firstB 1 s, 0)) := Lib.hid (if_pos hn)
  rw [HFR.out] at HF
  have H := Lib.hid h
  have HK := Lib.hid hk
  have HR := Lib.hid hr
  have HT := Lib.hid ht
  have HFB : Hid ((firstB 1 s).length = 8 + (8 + n)) := Lib.hid (by unfold firstB; rw [fenc_len, List.length_append, le8_len]; omega)
  have HLA := Lib.hid (fun W (hb : Below w.heap.size w W) => look_any (h.below hb) (hk.fit (by omega) (by omega)).b 0 (by omega) hoff hp0 (ht.below hb))
  have HLB := Lib.hid (fun W (hb : Below w.heap.size w W) => look_any (h.below hb) (hk.fit (by omega) (by omega)).b 1 (by omega) hoff hp1 (ht.below hb))
  have hz0 : (fileB d 0).length ≤ S := by have := hk.s.1; unfold fileB; rw [List.length_append]; exact this
  have hz1 : (fileB d 1).length ≤ S := by have := hk.s.2; unfold fileB; rw [List.length_append]; exact this
  have hE0 := E_le (fileB d 0)
  have hE1 := E_le (fileB d 1)
  have HOP : Hid (openR d s = if (lookF (fileB d (pick d))).1 = 0 then newR d s else oldR d (pick d)) := Lib.hid (by
    unfold openR
    rw [if_neg (by omega), hoff, if_neg (by simp)])
  clear h hk hr hsn ht hp0 hp1 HFR
  go_enter Tryd.func11, Tryd.ntmps11
  go_wp2_with fail
  refine HF.out.mono ?_
  rintro e w2 ⟨A2, n2, c2, rfl, ho, hb⟩
  have HO2 := Lib.hid ho
  have hl2 := ho.len
  rw [HFB.out] at hl2
  have B2 := Lib.hid hb
  have hs2 := hb.size
  clear ho hb
  have B3 := Lib.hid (below_alloc (Below.refl w2.heap.size w2) (.cells #[.int .i64 0, .slice none 0 0, .slice none 0 0, .int .i64 0, .int .i64 0, .int .i64 0, .slice none 0 0, .slice none 0 0, .int .i64 0, .int .i64 0] 67))
  have hb3 : (w2.alloc (.cells #[.int .i64 0, .slice none 0 0, .slice none 0 0, .int .i64 0, .int .i64 0, .int .i64 0, .slice none 0 0, .slice none 0 0, .int .i64 0, .int .i64 0] 67)).heap[w2.heap.size]? = some (.cells #[.int .i64 0, .slice none 0 0, .slice none 0 0, .int .i64 0, .int .i64 0, .int .i64 0, .slice none 0 0, .slice none 0 0, .int .i64 0, .int .i64 0] 67 (0, 0)) := World.alloc_heap_new w2 _
  have hz3 : (w2.alloc (.cells #[.int .i64 0, .slice none 0 0, .slice none 0 0, .int .i64 0, .int .i64 0, .int .i64 0, .slice none 0 0, .slice none 0 0, .int .i64 0, .int .i64 0] 67)).heap.size = w2.heap.size + 1 := by simp
  go_wp2
  generalize w2.alloc (.cells #[.int .i64 0, .slice none 0 0, .slice none 0 0, .int .i64 0, .int .i64 0, .int .i64 0, .slice none 0 0, .slice none 0 0, .int .i64 0, .int .i64 0] 67) = w3 at B3 hb3 hz3 ⊢
  have B23 := Lib.hid (B2.out.trans (B3.out.mono hs2))
  have HO3 := Lib.hid (HO2.out.below B3.out)
  generalize hfb : w2.heap.size = fb at hb3 hz3 hs2 ⊢
  clear hfb B3 HO2 B2
  refine wp_loop_rounds 3 ?_
  rw [rounds_succ]
  have HL3 := Lib.hid (HLA.out w3 B23.out)
  go_wp2_with fail
  refine HL3.out.mono ?_
  rintro e w4 ⟨A0, n0, c0, D0, m0, e0, cells0, rfl, hsn0, hv0, hr0, hb⟩
  have hb4 := (hb.block fb (by omega)).trans hb3
  have B34 := Lib.hid hb
  have HG0 := Lib.hid (Got.of hsn0 hv0 hr0)
  have hs4 := hb.size
  have HB4 := Lib.hid hb4
  obtain ⟨cel, fr⟩ := fbox hb4
  clear hsn0 hv0 hr0 hb hb3 HL3 hb4
  obtain ⟨q0, q1, q2, q3, q4, q5, q6, q7, q8, q9⟩ := cel
  have f0 := fr 0
  have f1 := fr 1
  have f2 := fr 2
  have f3 := fr 3
  have f4 := fr 4
  clear fr
  unfold keptV
  go_wp2
  rw [rounds_succ]
  clear q0 q1 q2 q3 q4 q5 q6 q7 q8 q9 f0 f1 f2 f3 f4
  have hX := box_put (box_put (box_put (box_put (box_put HB4.out 0 (.int .i64 (lookF (fileB d 0)).1)) 1 (.slice A0 n0 c0)) 2 (.slice D0 m0 e0)) 3 (.int .i64 ((fileB d 0).length : Nat))) 4 (.int .i64 (E (fileB d 0) : Nat))
  have hblk := set5_blk (j := 0) w4 fb (.int .i64 (lookF (fileB d 0)).1) (.slice A0 n0 c0) (.slice D0 m0 e0) (.int .i64 ((fileB d 0).length : Nat)) (.int .i64 (E (fileB d 0) : Nat))
  have hbel := set5_below w4 w.heap.size fb 0 hs2 (.int .i64 (lookF (fileB d 0)).1) (.slice A0 n0 c0) (.slice D0 m0 e0) (.int .i64 ((fileB d 0).length : Nat)) (.int .i64 (E (fileB d 0) : Nat))
  generalize ((((w4.setCell ⟨fb, 0, none⟩ (.int .i64 (lookF (fileB d 0)).1)).setCell ⟨fb, 1, none⟩ (.slice A0 n0 c0)).setCell ⟨fb, 2, none⟩ (.slice D0 m0 e0)).setCell ⟨fb, 3, none⟩ (.int .i64 ((fileB d 0).length : Nat))).setCell ⟨fb, 4, none⟩ (.int .i64 (E (fileB d 0) : Nat)) = w5 at hX hblk hbel ⊢
  have hX5 : w5.heap[fb]? = some (.cells #[.int .i64 (lookF (fileB d 0)).1, .slice A0 n0 c0, .slice D0 m0 e0, .int .i64 ((fileB d 0).length : Nat), .int .i64 (E (fileB d 0) : Nat), .int .i64 0, .slice none 0 0, .slice none 0 0, .int .i64 0, .int .i64 0] 67 (0, 0)) := hX
  have B25 := Lib.hid (B23.out.trans ((B34.out.mono (by omega)).trans hbel))
  have hs5 := hbel.size
  have HG5 : Hid (Got (fun j => w3.heap.size ≤ j ∧ j < w4.heap.size) w5 w3.heap.size A0 n0 c0 (lookF (fileB d 0)).2.1 D0 m0 e0 cells0 (lookF (fileB d 0)).2.2) := Lib.hid (HG0.out.kp ⟨hbel.size, fun i hi _ => hblk i (by omega)⟩)
  have HO5 : Hid (OwB w5 w.heap.size A2 n2 c2 (firstB 1 s)) := Lib.hid (OwB.blockT (t := 67) (by decide) (HO3.out.below B34.out) hblk HB4.out)
  clear HG0 HO3 hblk hbel hX B34 B23 HB4
  have HL5 := Lib.hid (HLB.out w5 B25.out)
  go_wp2_with fail
  refine HL5.out.mono ?_
  rintro e w6 ⟨A1, n1, c1, D1, m1, e1, cells1, rfl, hsn1, hv1, hr1, hb⟩
  have hb6 := (hb.block fb (by omega)).trans hX5
  have B56 := Lib.hid hb
  have HG1 := Lib.hid (Got.of hsn1 hv1 hr1)
  have hs6 := hb.size
  have HB6 := Lib.hid hb6
  obtain ⟨cel, fr⟩ := fbox hb6
  clear hsn1 hv1 hr1 hb hX5 HL5 hb6
  obtain ⟨q0, q1, q2, q3, q4, q5, q6, q7, q8, q9⟩ := cel
  have f5 := fr 5
  have f6 := fr 6
  have f7 := fr 7
  have f8 := fr 8
  have f9 := fr 9
  clear fr
  unfold keptV
  go_wp2
  rw [rounds_succ]
  clear q0 q1 q2 q3 q4 q5 q6 q7 q8 q9 f5 f6 f7 f8 f9
  have hX := box_put (box_put (box_put (box_put (box_put HB6.out 5 (.int .i64 (lookF (fileB d 1)).1)) 6 (.slice A1 n1 c1)) 7 (.slice D1 m1 e1)) 8 (.int .i64 ((fileB d 1).length : Nat))) 9 (.int .i64 (E (fileB d 1) : Nat))
  have hblk := set5_blk (j := 5) w6 fb (.int .i64 (lookF (fileB d 1)).1) (.slice A1 n1 c1) (.slice D1 m1 e1) (.int .i64 ((fileB d 1).length : Nat)) (.int .i64 (E (fileB d 1) : Nat))
  have hbel := set5_below w6 w.heap.size fb 5 hs2 (.int .i64 (lookF (fileB d 1)).1) (.slice A1 n1 c1) (.slice D1 m1 e1) (.int .i64 ((fileB d 1).length : Nat)) (.int .i64 (E (fileB d 1) : Nat))
  generalize ((((w6.setCell ⟨fb, 5, none⟩ (.int .i64 (lookF (fileB d 1)).1)).setCell ⟨fb, 6, none⟩ (.slice A1 n1 c1)).setCell ⟨fb, 7, none⟩ (.slice D1 m1 e1)).setCell ⟨fb, 8, none⟩ (.int .i64 ((fileB d 1).length : Nat))).setCell ⟨fb, 9, none⟩ (.int .i64 (E (fileB d 1) : Nat)) = w7 at hX hblk hbel ⊢
  have hX7 : w7.heap[fb]? = some (.cells (fcells (lookF (fileB d 0)) (lookF (fileB d 1)) A0 A1 D0 D1 n0 c0 m0 e0 n1 c1 m1 e1 (fileB d 0).length (E (fileB d 0)) (fileB d 1).length (E (fileB d 1))) 67 (0, 0)) := hX
  have B27 := Lib.hid (B25.out.trans ((B56.out.mono (by omega)).trans hbel))
  have hs7 := hbel.size
  have HG70 : Hid (Got (fun j => w3.heap.size ≤ j ∧ j < w4.heap.size) w7 w3.heap.size A0 n0 c0 (lookF (fileB d 0)).2.1 D0 m0 e0 cells0 (lookF (fileB d 0)).2.2) := Lib.hid ((HG5.out.kp ⟨B56.out.size, fun i hi hl => B56.out.block i hl⟩).kp ⟨hbel.size, fun i hi _ => hblk i (by omega)⟩)
  have HG71 : Hid (Got (fun j => w5.heap.size ≤ j ∧ j < w6.heap.size) w7 w5.heap.size A1 n1 c1 (lookF (fileB d 1)).2.1 D1 m1 e1 cells1 (lookF (fileB d 1)).2.2) := Lib.hid (HG1.out.kp ⟨hbel.size, fun i hi _ => hblk i (by omega)⟩)
  have HO7 : Hid (OwB w7 w.heap.size A2 n2 c2 (firstB 1 s)) := Lib.hid (OwB.blockT (t := 67) (by decide) (HO5.out.below B56.out) hblk HB6.out)
  have HFB7 := Lib.hid hX7
  clear HG5 HG1 HO5 hblk hbel hX B56 B25 HB6 hX7 HLA HLB HF
  have hs37 : w3.heap.size ≤ w7.heap.size := by omega
  have hs46 : w4.heap.size ≤ w5.heap.size := hs5
  have hs67 : w6.heap.size ≤ w7.heap.size := hs7
  have hfbw : fb < w3.heap.size := by omega
  have H7 := Lib.hid (H.out.below B27.out)
  by_cases hgt : (lookF (fileB d 0)).1 < (lookF (fileB d 1)).1
  · have hgn : ¬ (lookF (fileB d 1)).1 = 0 := by
      have := (lookP_range (ps := P (fileB d 0))).1
      have h2 : (lookF (fileB d 0)).1 = (lookP (P (fileB d 0))).1 := rfl
      omega
    have hpk : pick d = 1 := if_pos hgt
    have HOPN : Hid (openR d s = oldR d 1) := Lib.hid (by rw [HOP.out, hpk, if_neg hgn])
    have HOLD : Hid (oldR d 1 = if (wipeR d 0 (fileB d 0).length).2 ≠ 0 then ⟨(wipeR d 0 (fileB d 0).length).1, (wipeR d 0 (fileB d 0).length).2, noV⟩ else ⟨(mendR (wipeR d 0 (fileB d 0).length).1 1 (E (fileB d 1) : Nat) (fileB d 1).length).1, (mendR (wipeR d 0 (fileB d 0).length).1 1 (E (fileB d 1) : Nat) (fileB d 1).length).2, ⟨1, (lookF (fileB d 1)).1, (lookF (fileB d 1)).2.1, (lookF (fileB d 1)).2.2⟩⟩) := Lib.hid rfl
    have hgb : ((lookF (fileB d 1)).1 == 0) = false := beq_eq_false_iff_ne.2 hgn
    have hgp : 0 < (lookF (fileB d 1)).1 := by have := (lookP_range (ps := P (fileB d 1))).1; have h2 : (lookF (fileB d 1)).1 = (lookP (P (fileB d 1))).1 := rfl; omega
    have HBV := Lib.hid (below_alloc (Below.refl w7.heap.size w7) (.cells #[.pointer (some ⟨p, 0, none⟩), .int .i64 1, .int .i64 0, .int .i64 0, .int .i64 0] 71))
    have hq8 : (w7.alloc (.cells #[.pointer (some ⟨p, 0, none⟩), .int .i64 1, .int .i64 0, .int .i64 0, .int .i64 0] 71)).heap[w7.heap.size]? = some (.cells #[.pointer (some ⟨p, 0, none⟩), .int .i64 1, .int .i64 0, .int .i64 0, .int .i64 0] 71 (0, 0)) := World.alloc_heap_new w7 _
    have hz8 : (w7.alloc (.cells #[.pointer (some ⟨p, 0, none⟩), .int .i64 1, .int .i64 0, .int .i64 0, .int .i64 0] 71)).heap.size = w7.heap.size + 1 := by simp
    have HX8 := Lib.hid (HBV.out.block fb (by omega))
    clear HBV
    have hf8 := HX8.out.trans HFB7.out
    unfold fcells at hf8
    obtain ⟨⟨q0, q1, q2, q3, q4, q5, q6, q7, q8, q9⟩, _⟩ := fbox hf8
    have hf7 := ((below_alloc (Below.refl w7.heap.size w7) (.cells #[.pointer (some ⟨p, 0, none⟩), .int .i64 0, .int .i64 0, .int .i64 0, .int .i64 0] 71)).block fb (by omega)).trans HFB7.out
    unfold fcells at hf7
    obtain ⟨⟨y0, _, _, _, _, y5, _, _, _, _⟩, _⟩ := fbox hf7
    go_wp2_with fail
    have hk9 : ((w7.alloc (.cells #[.pointer (some ⟨p, 0, none⟩), .int .i64 1, .int .i64 0, .int .i64 0, .int .i64 0] 71)).alloc (.cells #[.int .i64 (lookF (fileB d 1)).1, .slice A1 n1 c1, .slice D1 m1 e1, .int .i64 ((fileB d 1).length : Nat), .int .i64 (E (fileB d 1) : Nat)] 66)).heap[(w7.alloc (.cells #[.pointer (some ⟨p, 0, none⟩), .int .i64 1, .int .i64 0, .int .i64 0, .int .i64 0] 71)).heap.size]? = some (.cells #[.int .i64 (lookF (fileB d 1)).1, .slice A1 n1 c1, .slice D1 m1 e1, .int .i64 ((fileB d 1).length : Nat), .int .i64 (E (fileB d 1) : Nat)] 66 (0, 0)) := World.alloc_heap_new _ _
    rw [hz8] at hk9
    have B89 := Lib.hid (below_alloc (Below.refl (w7.alloc (.cells #[.pointer (some ⟨p, 0, none⟩), .int .i64 1, .int .i64 0, .int .i64 0, .int .i64 0] 71)).heap.size (w7.alloc (.cells #[.pointer (some ⟨p, 0, none⟩), .int .i64 1, .int .i64 0, .int .i64 0, .int .i64 0] 71))) (.cells #[.int .i64 (lookF (fileB d 1)).1, .slice A1 n1 c1, .slice D1 m1 e1, .int .i64 ((fileB d 1).length : Nat), .int .i64 (E (fileB d 1) : Nat)] 66))
    have hz9 : ((w7.alloc (.cells #[.pointer (some ⟨p, 0, none⟩), .int .i64 1, .int .i64 0, .int .i64 0, .int .i64 0] 71)).alloc (.cells #[.int .i64 (lookF (fileB d 1)).1, .slice A1 n1 c1, .slice D1 m1 e1, .int .i64 ((fileB d 1).length : Nat), .int .i64 (E (fileB d 1) : Nat)] 66)).heap.size = w7.heap.size + 1 + 1 := by simp
    have hq9 := (B89.out.block w7.heap.size (by omega)).trans hq8
    have hf9 := (B89.out.block fb (by omega)).trans (HX8.out.trans HFB7.out)
    have B79 : Hid (Below w7.heap.size w7 ((w7.alloc (.cells #[.pointer (some ⟨p, 0, none⟩), .int .i64 1, .int .i64 0, .int .i64 0, .int .i64 0] 71)).alloc (.cells #[.int .i64 (lookF (fileB d 1)).1, .slice A1 n1 c1, .slice D1 m1 e1, .int .i64 ((fileB d 1).length : Nat), .int .i64 (E (fileB d 1) : Nat)] 66))) := Lib.hid ((below_alloc (Below.refl w7.heap.size w7) _).trans (B89.out.mono (by omega)))
    clear B89 q0 q1 q2 q3 q4 q5 q6 q7 q8 q9 hf8 HX8 hq8 hz8 y0 y5 hf7
    generalize (w7.alloc (.cells #[.pointer (some ⟨p, 0, none⟩), .int .i64 1, .int .i64 0, .int .i64 0, .int .i64 0] 71)).alloc (.cells #[.int .i64 (lookF (fileB d 1)).1, .slice A1 n1 c1, .slice D1 m1 e1, .int .i64 ((fileB d 1).length : Nat), .int .i64 (E (fileB d 1) : Nat)] 66) = w9 at hk9 hz9 hq9 hf9 B79 ⊢
    have B29 := Lib.hid (B27.out.trans (B79.out.mono (by omega)))
    have H9 := Lib.hid (H7.out.below B79.out)
    have HGF : Hid (Got (fun j => w5.heap.size ≤ j ∧ j < w6.heap.size) w9 w5.heap.size A1 n1 c1 (lookF (fileB d 1)).2.1 D1 m1 e1 cells1 (lookF (fileB d 1)).2.2) := Lib.hid (HG71.out.kp ⟨B79.out.size, fun i hi hl => B79.out.block i hl⟩)
    have HQ9 : Hid (VB w9 w7.heap.size p 1 0 0 0) := Lib.hid ⟨hq9⟩
    have HK9 := Lib.hid hk9
    have HF9 := Lib.hid hf9
    have HFT : Hid (∀ i : Nat, w.heap.size ≤ i → ¬ Ft p cs i) := Lib.hid fun i hi hft => by have := (H.out.ft hft).2; omega
    clear HG70 HG71 H7 B79 HFB7 hk9 hq9 hf9 HO7
    have hqw : w.heap.size ≤ w7.heap.size := by omega
    generalize hqb : w7.heap.size = qb at *
    obtain ⟨_, v1, _⟩ := HQ9.out.cells
    have hf9 := HF9.out
    unfold fcells at hf9
    obtain ⟨⟨q0, q1, q2, q3, q4, q5, q6, q7, q8, q9⟩, _⟩ := fbox hf9
    have hwr0 : IntKind.i64.wrap 0 = 0 := by decide
    have hwr1 : IntKind.i64.wrap 1 = 1 := by decide
    go_still_tail 14, (by kernel_rfl)
    clear hwr0 hwr1
    have H10 := Lib.hid H9.out.drewd
    have S10 := Lib.hid (DStep.below (p := p) (cs := cs) B29.out.drew H.out.base_le)
    have hs10 : w9.drew.heap.size = w9.heap.size := rfl
    have HB10 : Hid (∀ i : Nat, w9.drew.heap[i]? = w9.heap[i]?) := Lib.hid fun i => rfl
    have HGD := Lib.hid (HGF.out.kp (w1 := w9.drew) ⟨Nat.le_refl _, fun i _ _ => rfl⟩)
    change wpList _ _ _ _ _ w9.drew
    generalize w9.drew = w10 at H10 S10 hs10 HB10 HGD ⊢
    clear v1 q0 q1 q2 q3 q4 q5 q6 q7 q8 q9 hf9
    have HW := Lib.hid (wipe_any H10.out (HK.out.fit (by omega) (by omega)) 0 ((fileB d 0).length : Nat))
    have HKW := Lib.hid (Ok.wipe HK.out 0 ((fileB d 0).length : Nat))
    by_cases hw : (wipeR d 0 ((fileB d 0).length : Nat)).2 = 0
    · have HOLD2 := Lib.hid (HOLD.out.trans (if_neg (fun h => h hw)))
      rw [hw] at HW
      generalize (wipeR d 0 ((fileB d 0).length : Nat)).1 = d1 at HW HKW HOLD2
      go_wp2_with fail
      refine HW.out.mono ?_
      rintro e w11 ⟨rfl, cs11, h11, s11⟩
      have hkeep : ∀ i : Nat, w.heap.size ≤ i → i < w9.heap.size → w11.heap[i]? = w9.heap[i]? := fun i h1 h2 => (s11.keep.2 i (HFT.out i h1) (by omega)).trans (HB10.out i)
      have HQ11 := Lib.hid (HQ9.out.block (hkeep qb hqw (by omega)))
      have hk11 := (hkeep (qb + 1) (by omega) (by omega)).trans HK9.out
      have hf11 := (hkeep fb (by omega) (by omega)).trans HF9.out
      have HNQ : Hid (¬ Ft p cs11 qb) := Lib.hid fun h => by
        rcases s11.foot qb h with h | h
        · exact HFT.out qb hqw h
        · omega
      have S11 := Lib.hid (S10.out.trans s11)
      have hs11 := s11.keep.1
      have H11 := Lib.hid h11
      have HG11 := Lib.hid (HGD.out.kp ⟨hs11, fun i hi hl => s11.keep.2 i (HFT.out i (by omega)) hl⟩)
      have HFT11 : Hid (∀ i : Nat, w.heap.size ≤ i → i < w9.heap.size → ¬ Ft p cs11 i) := Lib.hid fun i h1 h2 h => by
        rcases s11.foot i h with h | h
        · exact HFT.out i h1 h
        · omega
      have HK11 := Lib.hid hk11
      obtain ⟨⟨k0, k1, k2, k3, k4⟩, _⟩ := box_cells hk11
      unfold fcells at hf11
      obtain ⟨⟨q0, _, _, _, _, q5, _, _, _, _⟩, _⟩ := fbox hf11
      obtain ⟨_, v1, _⟩ := HQ11.out.cells
      clear h11 s11 hkeep hk11 hf11
      have HM := Lib.hid (mend_any H11.out HKW.out (by omega) (by omega) HQ11.out HNQ.out (lookF (fileB d 1)).1 A1 n1 c1 D1 m1 e1 ((fileB d 1).length : Nat) (E (fileB d 1) : Nat) (by omega) (by omega))
      unfold keptV at HM
      have HKM := Lib.hid (Ok.mend HKW.out 1 (E (fileB d 1) : Nat) ((fileB d 1).length : Nat))
      by_cases hm : (mendR d1 1 (E (fileB d 1) : Nat) ((fileB d 1).length : Nat)).2 = 0
      · have hm' := hm
        rw [hm] at HM
        have HEN : Hid ((openR d s).e = 0 ∧ (openR d s).d = (mendR d1 1 (E (fileB d 1) : Nat) ((fileB d 1).length : Nat)).1 ∧ (openR d s).v = ⟨1, (lookF (fileB d 1)).1, (lookF (fileB d 1)).2.1, (lookF (fileB d 1)).2.2⟩) := Lib.hid (by rw [HOPN.out, HOLD2.out]; exact ⟨hm', rfl, rfl⟩)
        have HPK := Lib.hid hpk
        clear hm hm' HOLD2 HOLD HOPN HOP hpk
        generalize (mendR d1 1 (E (fileB d 1) : Nat) ((fileB d 1).length : Nat)).1 = d2 at HM HKM HEN
        go_wp2_with fail
        refine HM.out.mono ?_
        rintro e w12 ⟨rfl, cs12, h12, s12⟩
        have hkeep : ∀ i : Nat, w.heap.size ≤ i → i < w9.heap.size → w12.heap[i]? = w11.heap[i]? := fun i h1 h2 => s12.keep.2 i (HFT11.out i h1 h2) (by omega)
        have HQ12 := Lib.hid (HQ11.out.block (hkeep qb hqw (by omega)))
        have hk12 := (hkeep (qb + 1) (by omega) (by omega)).trans HK11.out
        have hnq : ¬ Ft p cs12 qb := fun h => by
          rcases s12.foot qb h with h | h
          · exact HNQ.out h
          · omega
        have S12 := Lib.hid (S11.out.trans s12)
        have H12 := Lib.hid h12
        have HG12 := Lib.hid (HG11.out.kp ⟨s12.keep.1, fun i hi hl => s12.keep.2 i (HFT11.out i (by omega) (by omega)) hl⟩)
        have HFT12 : Hid (∀ i : Nat, w.heap.size ≤ i → i < w9.heap.size → ¬ Ft p cs12 i) := Lib.hid fun i h1 h2 h => by
          rcases s12.foot i h with h | h
          · exact HFT11.out i h1 h2 h
          · omega
        have HNQ := Lib.hid hnq
        have HK12 := Lib.hid hk12
        have hs12 := s12.keep.1
        clear h12 s12 hkeep hk12 hnq k0 k1 k2 k3 k4 q0 q5 v1
        obtain ⟨⟨k0, k1, k2, k3, k4⟩, _⟩ := box_cells HK12.out
        obtain ⟨_, _, v2, v3, _⟩ := HQ12.out.cells
        have fr2 := HQ12.out.free 2
        have fr3 := HQ12.out.free 3
        go_upto_region 29 with fail
        go_cut [] from 110 to 120 (fun wx => wx = ((w12.setCell ⟨qb, 2, none⟩ (.int .i64 (lookF (fileB d 1)).1)).setCell ⟨qb, 3, none⟩ (.int .i64 (m1 : Nat))).drew)
        case first =>
          go_region
          all_goals go_wp2_with fail
          all_goals go_meet
          all_goals (case rel => rfl)
        case rest =>
          have hblk : ∀ i : Nat, i ≠ qb → wc.heap[i]? = w12.heap[i]? := fun i hi => by
            rw [hcut]
            show ((w12.setCell ⟨qb, 2, none⟩ (.int .i64 (lookF (fileB d 1)).1)).setCell ⟨qb, 3, none⟩ (.int .i64 (m1 : Nat))).heap[i]? = _
            rw [Below.heap_setCell _ _ _ _ hi, Below.heap_setCell _ _ _ _ hi]
          have hbel : Below w.heap.size w12 wc := by
            rw [hcut]
            exact ((((Below.refl w.heap.size w12).setCell (p := ⟨qb, 2, none⟩) hqw _).setCell (p := ⟨qb, 3, none⟩) hqw _)).drew
          have hq13 : VB wc qb p 1 (lookF (fileB d 1)).1 (m1 : Nat) 0 := ⟨by
            rw [hcut]
            exact box_put (box_put HQ12.out.box 2 (.int .i64 (lookF (fileB d 1)).1)) 3 (.int .i64 (m1 : Nat))⟩
          clear hcut
          have HA13 : Hid (DAt wc base p cs12 d2) := Lib.hid (H12.out.blocks fun g hg => hblk g (fun e => HNQ.out (e ▸ hg)))
          have hsz12 := hbel.size
          have HS13 : Hid (DStep w base p cs wc cs12) := Lib.hid ⟨⟨Nat.le_trans S12.out.keep.1 hsz12, fun i hi hlt => (hblk i (by omega)).trans (S12.out.keep.2 i hi hlt)⟩, S12.out.foot, S12.out.bel.trans (hbel.mono H.out.base_le)⟩
          have HG13 := Lib.hid (HG12.out.kp (w1 := wc) ⟨hsz12, fun i hi _ => hblk i (by omega)⟩)
          have hk13 := (hblk (qb + 1) (by omega)).trans HK12.out
          have HQ13 := Lib.hid hq13
          clear hblk hbel hq13 k0 k1 k2 k3 k4 v2 v3 fr2 fr3
          obtain ⟨⟨_, k1, k2, _, _⟩, _⟩ := box_cells hk13
          clear hk13
          go_wp2_with fail
          go_quiet (fail)
          go_wp2
          obtain ⟨he, hd, hv⟩ := HEN.out
          have hD := pw_below_drewN (Below.refl wc.heap.size wc) nq
          have hml : (lookF (fileB d 1)).2.2.length = m1 := by rw [← HG13.out.each.len]; exact OwV.len HG13.out.rows
          refine bodyPost_ret (results_tmp4 rfl _ _ _) rfl ?_
          refine .inr ⟨he, qb, A1, n1, c1, D1, m1, e1, cells1, cs12, rfl, ?_, HS13.out.trans (DStep.below hD (Nat.le_trans H.out.base_le HS13.out.keep.1)), ?_, ⟨hqw, HNQ.out⟩, ?_⟩
          · rw [hd]; exact HA13.out.below hD
          · rw [hv]
            show VB _ qb p (((1 : Nat)) : Int) (lookF (fileB d 1)).1 (((lookF (fileB d 1)).2.2.length : Nat) : Int) 0
            rw [hml]
            exact HQ13.out.below hD
          · rw [hv]
            exact ⟨((HG13.out.kp (w1 := wc.drewN nq) ⟨hD.size, fun i _ hl => hD.block i hl⟩).less (by omega)).mono fun j hj => ⟨by omega, HFT12.out j (by omega) (by omega), by omega⟩, fun h => absurd (by rw [HPK.out] at h; exact h) hgn⟩
      · have hm1 : ((mendR d1 1 (E (fileB d 1) : Nat) ((fileB d 1).length : Nat)).2 == 0) = false := beq_eq_false_iff_ne.2 hm
        have hm2 : ((mendR d1 1 (E (fileB d 1) : Nat) ((fileB d 1).length : Nat)).2 != 0) = true := by simp [hm]
        have HEN : Hid ((openR d s).e = (mendR d1 1 (E (fileB d 1) : Nat) ((fileB d 1).length : Nat)).2 ∧ (openR d s).d = (mendR d1 1 (E (fileB d 1) : Nat) ((fileB d 1).length : Nat)).1 ∧ (openR d s).e ≠ 0) := Lib.hid (by rw [HOPN.out, HOLD2.out]; exact ⟨rfl, rfl, hm⟩)
        clear hm HOLD2 HOLD HOPN HOP hpk
        generalize mendR d1 1 (E (fileB d 1) : Nat) ((fileB d 1).length : Nat) = r2 at HM HKM HEN hm1 hm2
        go_wp2_with fail
        refine HM.out.mono ?_
        rintro e w12 hret
        have HRt := Lib.hid (RetD.from S11.out hret)
        obtain ⟨rfl, _⟩ := hret
        go_wp2
        refine bodyPost_ret (results_tmp4 rfl _ _ _) rfl ?_
        obtain ⟨he, hd, hv⟩ := HEN.out
        refine .inl ⟨hv, by rw [he]; rfl, ?_⟩
        rw [hd]
        exact HRt.out.2
    · have hw1 : ((wipeR d 0 ((fileB d 0).length : Nat)).2 == 0) = false := beq_eq_false_iff_ne.2 hw
      have hw2 : ((wipeR d 0 ((fileB d 0).length : Nat)).2 != 0) = true := by simp [hw]
      have HEN : Hid ((openR d s).e = (wipeR d 0 ((fileB d 0).length : Nat)).2 ∧ (openR d s).d = (wipeR d 0 ((fileB d 0).length : Nat)).1 ∧ (openR d s).e ≠ 0) := Lib.hid (by
        have h := HOPN.out.trans (HOLD.out.trans (if_pos hw))
        rw [h]
        exact ⟨rfl, rfl, hw⟩)
      clear hw HOLD HOPN HOP hpk
      generalize wipeR d 0 ((fileB d 0).length : Nat) = r2 at HW HKW HEN hw1 hw2
      go_wp2_with fail
      refine HW.out.mono ?_
      rintro e w11 hret
      have HRt := Lib.hid (RetD.from S10.out hret)
      obtain ⟨rfl, _⟩ := hret
      go_wp2
      refine bodyPost_ret (results_tmp4 rfl _ _ _) rfl ?_
      obtain ⟨he, hd, hv⟩ := HEN.out
      refine .inl ⟨hv, by rw [he]; rfl, ?_⟩
      rw [hd]
      exact HRt.out.2
  · by_cases hgn : (lookF (fileB d 0)).1 = 0
    · have hpk : pick d = 0 := if_neg hgt
      have HOPN : Hid (openR d s = newR d s) := Lib.hid (by rw [HOP.out, hpk, if_pos hgn])
      have HNEW : Hid (newR d s = if (wipeR d 0 ((fileB d 0).length : Nat)).2 ≠ 0 then ⟨(wipeR d 0 ((fileB d 0).length : Nat)).1, (wipeR d 0 ((fileB d 0).length : Nat)).2, noV⟩ else if (beginR (wipeR d 0 ((fileB d 0).length : Nat)).1 0 (firstB 1 s)).2 ≠ 0 then ⟨(beginR (wipeR d 0 ((fileB d 0).length : Nat)).1 0 (firstB 1 s)).1, (beginR (wipeR d 0 ((fileB d 0).length : Nat)).1 0 (firstB 1 s)).2, noV⟩ else ⟨(wipeR (beginR (wipeR d 0 ((fileB d 0).length : Nat)).1 0 (firstB 1 s)).1 1 ((fileB d 1).length : Nat)).1, (wipeR (beginR (wipeR d 0 ((fileB d 0).length : Nat)).1 0 (firstB 1 s)).1 1 ((fileB d 1).length : Nat)).2, ⟨0, 1, s, []⟩⟩) := Lib.hid rfl
      have HBV := Lib.hid (below_alloc (Below.refl w7.heap.size w7) (.cells #[.pointer (some ⟨p, 0, none⟩), .int .i64 0, .int .i64 0, .int .i64 0, .int .i64 0] 71))
      have hq8 : (w7.alloc (.cells #[.pointer (some ⟨p, 0, none⟩), .int .i64 0, .int .i64 0, .int .i64 0, .int .i64 0] 71)).heap[w7.heap.size]? = some (.cells #[.pointer (some ⟨p, 0, none⟩), .int .i64 0, .int .i64 0, .int .i64 0, .int .i64 0] 71 (0, 0)) := World.alloc_heap_new w7 _
      have hz8 : (w7.alloc (.cells #[.pointer (some ⟨p, 0, none⟩), .int .i64 0, .int .i64 0, .int .i64 0, .int .i64 0] 71)).heap.size = w7.heap.size + 1 := by simp
      have HX8 := Lib.hid (HBV.out.block fb (by omega))
      clear HBV
      have hf8 := HX8.out.trans HFB7.out
      unfold fcells at hf8
      obtain ⟨⟨q0, q1, q2, q3, q4, q5, q6, q7, q8, q9⟩, _⟩ := fbox hf8
      rw [hgn] at q0 hgt
      have HGN := Lib.hid hgn
      clear hgn
      go_upto_region 19 with fail
      have hk9 : ((w7.alloc (.cells #[.pointer (some ⟨p, 0, none⟩), .int .i64 0, .int .i64 0, .int .i64 0, .int .i64 0] 71)).alloc (.cells #[.int .i64 0, .slice A0 n0 c0, .slice D0 m0 e0, .int .i64 ((fileB d 0).length : Nat), .int .i64 (E (fileB d 0) : Nat)] 66)).heap[(w7.alloc (.cells #[.pointer (some ⟨p, 0, none⟩), .int .i64 0, .int .i64 0, .int .i64 0, .int .i64 0] 71)).heap.size]? = some (.cells #[.int .i64 0, .slice A0 n0 c0, .slice D0 m0 e0, .int .i64 ((fileB d 0).length : Nat), .int .i64 (E (fileB d 0) : Nat)] 66 (0, 0)) := World.alloc_heap_new _ _
      rw [hz8] at hk9
      have B89 := Lib.hid (below_alloc (Below.refl (w7.alloc (.cells #[.pointer (some ⟨p, 0, none⟩), .int .i64 0, .int .i64 0, .int .i64 0, .int .i64 0] 71)).heap.size (w7.alloc (.cells #[.pointer (some ⟨p, 0, none⟩), .int .i64 0, .int .i64 0, .int .i64 0, .int .i64 0] 71))) (.cells #[.int .i64 0, .slice A0 n0 c0, .slice D0 m0 e0, .int .i64 ((fileB d 0).length : Nat), .int .i64 (E (fileB d 0) : Nat)] 66))
      have hz9 : ((w7.alloc (.cells #[.pointer (some ⟨p, 0, none⟩), .int .i64 0, .int .i64 0, .int .i64 0, .int .i64 0] 71)).alloc (.cells #[.int .i64 0, .slice A0 n0 c0, .slice D0 m0 e0, .int .i64 ((fileB d 0).length : Nat), .int .i64 (E (fileB d 0) : Nat)] 66)).heap.size = w7.heap.size + 1 + 1 := by simp
      have hq9 := (B89.out.block w7.heap.size (by omega)).trans hq8
      have hf9 := (B89.out.block fb (by omega)).trans (HX8.out.trans HFB7.out)
      have B79 : Hid (Below w7.heap.size w7 ((w7.alloc (.cells #[.pointer (some ⟨p, 0, none⟩), .int .i64 0, .int .i64 0, .int .i64 0, .int .i64 0] 71)).alloc (.cells #[.int .i64 0, .slice A0 n0 c0, .slice D0 m0 e0, .int .i64 ((fileB d 0).length : Nat), .int .i64 (E (fileB d 0) : Nat)] 66))) := Lib.hid ((below_alloc (Below.refl w7.heap.size w7) _).trans (B89.out.mono (by omega)))
      clear B89 q0 q1 q2 q3 q4 q5 q6 q7 q8 q9 hf8 HX8 hq8 hz8
      generalize (w7.alloc (.cells #[.pointer (some ⟨p, 0, none⟩), .int .i64 0, .int .i64 0, .int .i64 0, .int .i64 0] 71)).alloc (.cells #[.int .i64 0, .slice A0 n0 c0, .slice D0 m0 e0, .int .i64 ((fileB d 0).length : Nat), .int .i64 (E (fileB d 0) : Nat)] 66) = w9 at hk9 hz9 hq9 hf9 B79 ⊢
      have B29 := Lib.hid (B27.out.trans (B79.out.mono (by omega)))
      have H9 := Lib.hid (H7.out.below B79.out)
      have HO9 := Lib.hid (HO7.out.below B79.out)
      have HQ9 : Hid (VB w9 w7.heap.size p 0 0 0 0) := Lib.hid ⟨hq9⟩
      have HK9 := Lib.hid hk9
      have HF9 := Lib.hid hf9
      have HFT : Hid (∀ i : Nat, w.heap.size ≤ i → ¬ Ft p cs i) := Lib.hid fun i hi hft => by have := (H.out.ft hft).2; omega
      clear HG70 HG71 H7 B79 HFB7 hk9 hq9 hf9 HO7
      have hqw : w.heap.size ≤ w7.heap.size := by omega
      generalize hqb : w7.heap.size = qb at *
      have hf9 := HF9.out
      unfold fcells at hf9
      obtain ⟨⟨q0, _, _, q3, _, q5, _, _, q8, _⟩, _⟩ := fbox hf9
      rw [HGN.out] at q0
      have S9 := Lib.hid (DStep.below (p := p) (cs := cs) B29.out H.out.base_le)
      have HW := Lib.hid (wipe_any H9.out (HK.out.fit (by omega) (by omega)) 0 ((fileB d 0).length : Nat))
      have HKW := Lib.hid (Ok.wipe HK.out 0 ((fileB d 0).length : Nat))
      -- what any steps on the disk leave
      have HST : Hid (∀ (w' : World) (cs' : Nat → Sl), DStep w9 base p cs w' cs' → (∀ i : Nat, w.heap.size ≤ i → i < w9.heap.size → w'.heap[i]? = w9.heap[i]?) ∧ (∀ i : Nat, w.heap.size ≤ i → i < w9.heap.size → ¬ Ft p cs' i)) := Lib.hid fun w' cs' st => ⟨fun i h1 h2 => st.keep.2 i (HFT.out i h1) h2, fun i h1 h2 h => by
        rcases st.foot i h with h | h
        · exact HFT.out i h1 h
        · omega⟩
      by_cases hw : (wipeR d 0 ((fileB d 0).length : Nat)).2 = 0
      · have HNEW := Lib.hid (HNEW.out.trans (if_neg (fun h => h hw)))
        rw [hw] at HW
        go_wp2_with fail
        refine HW.out.mono ?_
        rintro e w11 ⟨rfl, cs11, h11, s11⟩
        have HBG := Lib.hid (begin_any h11 HKW.out 0 A2 n2 c2 (firstB 1 s) (own_kp (P := fun g => ¬ Ft p cs g) HO9.out s11.keep (fun j hj => HFT.out j (OwB.blk HO9.out j hj).1)).rd (by omega) (by omega))
        have HKB := Lib.hid (Ok.begin_ HKW.out 0 (firstB 1 s))
        have S11 := Lib.hid s11
        clear h11 s11
        by_cases hbg : (beginR (wipeR d 0 ((fileB d 0).length : Nat)).1 0 (firstB 1 s)).2 = 0
        · have HNEW := Lib.hid (HNEW.out.trans (if_neg (fun h => h hbg)))
          rw [hbg] at HBG
          generalize (beginR (wipeR d 0 ((fileB d 0).length : Nat)).1 0 (firstB 1 s)).1 = d2 at HBG HKB HNEW
          go_wp2_with fail
          refine HBG.out.mono ?_
          rintro e w12 ⟨rfl, cs12, h12, s12⟩
          have S9X := Lib.hid (S11.out.trans s12)
          have ST := Lib.hid (S9.out.trans S9X.out)
          have HA := Lib.hid h12
          have hkx := ((HST.out w12 cs12 S9X.out).1 (qb + 1) (by omega) (by omega)).trans HK9.out
          have HNK : Hid (¬ Ft p cs12 (qb + 1)) := Lib.hid ((HST.out w12 cs12 S9X.out).2 (qb + 1) (by omega) (by omega))
          have HN12 := Lib.hid (HST.out w12 cs12 S9X.out).2
          have HK12 := Lib.hid (HST.out w12 cs12 S9X.out).1
          clear h12 s12
          have HKX := Lib.hid hkx
          obtain ⟨⟨k0, k1, k2, k3, k4⟩, hkf⟩ := box_cells hkx
          have hR := HSN.out w12 cs12 ST.out
          have HRX := Lib.hid hR
          have hszx : w9.heap.size ≤ w12.heap.size := S9X.out.keep.1
          clear hkx hR hkf
          go_wp2_with (first | (at_builtin; refine app (w0 := w12) (base := w12.heap.size) rfl (.tmp 71) (.tmp 72) rfl rfl rfl (OwB.lit0 w12 _ (Nat.le_refl _)) (HRX.out.below (below_alloc (Below.refl _ _) _)) ((Below.refl w12.heap.size w12).alloc (Nat.le_refl _) _) ?s13 ?l13 ?_; (case s13 => simp); (case l13 => omega); intro A13 n13 c13 w13 ho hb; rw [List.nil_append] at ho; have HOA := Lib.hid ho; have hla := ho.len; rw [hl] at hla; subst hla; have HBA := Lib.hid hb; have hsa := hb.size; have hkA := (hb.block (qb + 1) (by omega)).trans HKX.out; have HKA := Lib.hid hkA; clear k0 k1 k2 k3 k4; obtain ⟨⟨k0, k1, k2, k3, k4⟩, hkf⟩ := box_cells hkA; have kf0 := hkf 0; have kf1 := hkf 1; have kf2 := hkf 2; have kf3 := hkf 3; have kf4 := hkf 4; clear hkf hkA; clear ho hb) | fail)
          have hX := box_put (box_put (box_put (box_put (box_put HKA.out 0 (.int .i64 1)) 1 (.slice A13 n c13)) 2 (.slice none 0 0)) 3 (.int .i64 0)) 4 (.int .i64 0)
          have hblk := set5_blk (j := 0) w13 (qb + 1) (.int .i64 1) (.slice A13 n c13) (.slice none 0 0) (.int .i64 0) (.int .i64 0)
          have hbel := set5_below w13 w.heap.size (qb + 1) 0 (by omega) (.int .i64 1) (.slice A13 n c13) (.slice none 0 0) (.int .i64 0) (.int .i64 0)
          have HFIN := Lib.hid (after_kb HA.out ST.out (show w.heap.size ≤ qb + 1 by omega) HNK.out (fun i hi hlt => (hblk i hi).trans (HBA.out.block i hlt)) ((HBA.out.mono (Nat.le_trans H.out.base_le ST.out.keep.1)).trans (hbel.mono H.out.base_le)))
          have HOA14 := Lib.hid (OwB.blockT (t := 66) (by decide) HOA.out hblk HKA.out)
          have hs14 := hbel.size
          have hk9e : ∀ i : Nat, i ≠ qb + 1 → w.heap.size ≤ i → i < w9.heap.size → ((((((w13.setCell ⟨qb + 1, 0, none⟩ (.int .i64 1)).setCell ⟨qb + 1, 1, none⟩ (.slice A13 n c13)).setCell ⟨qb + 1, 2, none⟩ (.slice none 0 0)).setCell ⟨qb + 1, 3, none⟩ (.int .i64 0)).setCell ⟨qb + 1, 4, none⟩ (.int .i64 0))).heap[i]? = w9.heap[i]? := fun i h0 h1 h2 => (hblk i h0).trans ((HBA.out.block i (by omega)).trans (HK12.out i h1 h2))
          have HOBK := Lib.hid (OwB.blk HOA.out)
          clear hblk hbel k0 k1 k2 k3 k4 kf0 kf1 kf2 kf3 kf4 HBA HKA HOA
          generalize ((((w13.setCell ⟨qb + 1, 0, none⟩ (.int .i64 1)).setCell ⟨qb + 1, 1, none⟩ (.slice A13 n c13)).setCell ⟨qb + 1, 2, none⟩ (.slice none 0 0)).setCell ⟨qb + 1, 3, none⟩ (.int .i64 0)).setCell ⟨qb + 1, 4, none⟩ (.int .i64 0) = w14 at hX HFIN HOA14 hs14 hk9e ⊢
          have hk14 : w14.heap[qb + 1]? = some (.cells #[.int .i64 1, .slice A13 n c13, .slice none 0 0, .int .i64 0, .int .i64 0] 66 (0, 0)) := hX
          have HQ14 := Lib.hid (HQ9.out.block (hk9e qb (by omega) hqw (by omega)))
          have hf14 := (hk9e fb (by omega) (by omega) (by omega)).trans HF9.out
          have HK14 := Lib.hid hk14
          have HF14 := Lib.hid hf14
          clear hX hk14 hf14 hk9e q0 q3 q5 q8
          obtain ⟨_, v1, _⟩ := HQ14.out.cells
          have hf14 := HF14.out
          unfold fcells at hf14
          obtain ⟨⟨q0, _, _, q3, _, q5, _, _, q8, _⟩, _⟩ := fbox hf14
          rw [HGN.out] at q0
          have hwr0 : IntKind.i64.wrap 0 = 0 := by decide
          have hwr1 : IntKind.i64.wrap 1 = 1 := by decide
          go_still_tail 14, (by kernel_rfl)
          clear hwr0 hwr1
          have H15 := Lib.hid HFIN.out.1.drewd
          have S15 := Lib.hid HFIN.out.2.drewd
          have hs15 : w14.drew.heap.size = w14.heap.size := rfl
          have HB15 : Hid (∀ i : Nat, w14.drew.heap[i]? = w14.heap[i]?) := Lib.hid fun i => rfl
          have HOA15 := Lib.hid (HOA14.out.below (Below.refl _ w14).drew)
          change wpList _ _ _ _ _ w14.drew
          generalize w14.drew = w15 at H15 S15 hs15 HB15 HOA15 ⊢
          clear v1 q0 q3 q5 q8 hf14
          have hfbl := HFB.out
          have HV := Lib.hid (wipe_any H15.out (HKB.out.fit (by omega) (by omega)) 1 ((fileB d 1).length : Nat))
          have HKV := Lib.hid (Ok.wipe HKB.out 1 ((fileB d 1).length : Nat))
          have HEN : Hid ((openR d s).e = (wipeR d2 1 ((fileB d 1).length : Nat)).2 ∧ (openR d s).d = (wipeR d2 1 ((fileB d 1).length : Nat)).1 ∧ (openR d s).v = ⟨0, 1, s, []⟩) := Lib.hid (by rw [HOPN.out, HNEW.out]; exact ⟨rfl, rfl, rfl⟩)
          clear HNEW HOPN HOP hpk
          by_cases hv0 : (wipeR d2 1 ((fileB d 1).length : Nat)).2 = 0
          · rw [hv0] at HEN HV
            generalize (wipeR d2 1 ((fileB d 1).length : Nat)).1 = d3 at HV HKV HEN
            clear hv0
            go_wp2_with fail
            refine HV.out.mono ?_
            rintro e w16 ⟨rfl, cs16, h16, s16⟩
            have hkeep : ∀ i : Nat, w.heap.size ≤ i → i < w9.heap.size → w16.heap[i]? = w14.heap[i]? := fun i h1 h2 => (s16.keep.2 i (HN12.out i h1 h2) (by omega)).trans (HB15.out i)
            have hft16 : ∀ i : Nat, w.heap.size ≤ i → i < w14.heap.size → ¬ Ft p cs12 i → ¬ Ft p cs16 i := fun i h1 h2 h3 h => by
              rcases s16.foot i h with h | h
              · exact h3 h
              · omega
            have HQ16 := Lib.hid (HQ14.out.block (hkeep qb hqw (by omega)))
            have hk16 := (hkeep (qb + 1) (by omega) (by omega)).trans HK14.out
            have hf16 := (hkeep fb (by omega) (by omega)).trans HF14.out
            have HNQ : Hid (¬ Ft p cs16 qb) := Lib.hid (hft16 qb hqw (by omega) (HN12.out qb hqw (by omega)))
            have S16 := Lib.hid (S15.out.trans s16)
            have H16 := Lib.hid h16
            have HFTA : Hid (∀ j, (Value.slice A13 n c13).ownBlock = some j → w12.heap.size ≤ j ∧ ¬ Ft p cs12 j ∧ ¬ Ft p cs16 j) := Lib.hid fun j hj => by
              have h1 := HOBK.out j hj
              have h2 : ¬ Ft p cs12 j := fun h => by have := (HA.out.ft h).2; omega
              exact ⟨h1.1, h2, hft16 j (by omega) (by omega) h2⟩
            have HOA16 := Lib.hid (own_kp HOA15.out s16.keep (fun j hj => (HFTA.out j hj).2.1))
            have HK16 := Lib.hid hk16
            have hs16 := s16.keep.1
            clear h16 s16 hkeep hft16 hk16
            obtain ⟨⟨k0, k1, k2, k3, k4⟩, _⟩ := box_cells HK16.out
            unfold fcells at hf16
            obtain ⟨⟨q0, _, _, _, _, q5, _, _, _, _⟩, _⟩ := fbox hf16
            rw [HGN.out] at q0
            obtain ⟨_, v1, v2, v3, _⟩ := HQ16.out.cells
            have fr2 := HQ16.out.free 2
            have fr3 := HQ16.out.free 3
            go_upto_region 29 with fail
            go_cut [] from 110 to 120 (fun wx => wx = ((w16.setCell ⟨qb, 2, none⟩ (.int .i64 1)).setCell ⟨qb, 3, none⟩ (.int .i64 0)).drew)
            case first =>
              go_region
              all_goals go_wp2_with fail
              all_goals go_meet
              all_goals (case rel => rfl)
            case rest =>
              have hblk : ∀ i : Nat, i ≠ qb → wc.heap[i]? = w16.heap[i]? := fun i hi => by
                rw [hcut]
                show ((w16.setCell ⟨qb, 2, none⟩ (.int .i64 1)).setCell ⟨qb, 3, none⟩ (.int .i64 0)).heap[i]? = _
                rw [Below.heap_setCell _ _ _ _ hi, Below.heap_setCell _ _ _ _ hi]
              have hbel : Below w.heap.size w16 wc := by
                rw [hcut]
                exact ((((Below.refl w.heap.size w16).setCell (p := ⟨qb, 2, none⟩) hqw _).setCell (p := ⟨qb, 3, none⟩) hqw _)).drew
              have hq17 : VB wc qb p 0 1 0 0 := ⟨by
                rw [hcut]
                exact box_put (box_put HQ16.out.box 2 (.int .i64 1)) 3 (.int .i64 0)⟩
              clear hcut
              have HFN := Lib.hid (after_kb H16.out S16.out hqw HNQ.out (fun i hi _ => hblk i hi) (hbel.mono H.out.base_le))
              have hszc := hbel.size
              have HOAC : Hid (OwB wc w12.heap.size A13 n c13 s) := Lib.hid (own_kp (P := fun i => i ≠ qb) HOA16.out ⟨hszc, fun i hi _ => hblk i hi⟩ (fun j hj => by have := (HFTA.out j hj).1; omega))
              have hk17 := (hblk (qb + 1) (by omega)).trans HK16.out
              have HQ17 := Lib.hid hq17
              clear hblk hbel hq17 k0 k1 k2 k3 k4 v1 v2 v3 fr2 fr3 q0 q5
              obtain ⟨⟨_, k1, k2, _, _⟩, _⟩ := box_cells hk17
              clear hk17
              go_wp2_with fail
              go_quiet (fail)
              go_wp2
              obtain ⟨he, hd, hv⟩ := HEN.out
              have hD := pw_below_drewN (Below.refl wc.heap.size wc) nq
              refine bodyPost_ret (results_tmp4 rfl _ _ _) rfl ?_
              refine .inr ⟨he, qb, A13, n, c13, none, 0, 0, [], cs16, rfl, ?_, HFN.out.2.trans (DStep.below hD (Nat.le_trans H.out.base_le HFN.out.2.keep.1)), ?_, ⟨hqw, HNQ.out⟩, ?_⟩
              · rw [hd]; exact HFN.out.1.below hD
              · rw [hv]
                exact HQ17.out.below hD
              · rw [hv]
                have hpj : ∀ j, (Value.slice A13 n c13).ownBlock = some j → w.heap.size ≤ j ∧ ¬ Ft p cs16 j ∧ j ≠ qb := fun j hj => by
                  have h := HFTA.out j hj
                  exact ⟨by omega, h.2.2, by omega⟩
                exact ⟨⟨⟨0, A13, n, c13, s, (HOAC.out.below hD).less (by omega), fun _ _ h => h, rfl, HOAC.out.cap, hpj⟩, OwV.nil _ _, (fun j hj => by cases hj), Rws.nil _ _, (fun i j a n c hi => by simp at hi)⟩, fun _ => ⟨(HOAC.out.below hD).less (by omega), hpj⟩⟩
          · have hv1 : ((wipeR d2 1 ((fileB d 1).length : Nat)).2 == 0) = false := beq_eq_false_iff_ne.2 hv0
            have hv2 : ((wipeR d2 1 ((fileB d 1).length : Nat)).2 != 0) = true := by simp [hv0]
            have HV0 := Lib.hid hv0
            clear hv0
            generalize wipeR d2 1 ((fileB d 1).length : Nat) = r2 at HV HKV HEN hv1 hv2 HV0
            go_wp2_with fail
            refine HV.out.mono ?_
            rintro e w16 hret
            have HRt := Lib.hid (RetD.from S15.out hret)
            obtain ⟨rfl, _⟩ := hret
            go_wp2
            refine bodyPost_ret (results_tmp4 rfl _ _ _) rfl ?_
            obtain ⟨he, hd, _⟩ := HEN.out
            refine .inl ⟨by rw [he]; exact HV0.out, by rw [he]; rfl, ?_⟩
            rw [hd]
            exact HRt.out.2
        · have hb1 : ((beginR (wipeR d 0 ((fileB d 0).length : Nat)).1 0 (firstB 1 s)).2 == 0) = false := beq_eq_false_iff_ne.2 hbg
          have hb2 : ((beginR (wipeR d 0 ((fileB d 0).length : Nat)).1 0 (firstB 1 s)).2 != 0) = true := by simp [hbg]
          have HEN : Hid ((openR d s).e = (beginR (wipeR d 0 ((fileB d 0).length : Nat)).1 0 (firstB 1 s)).2 ∧ (openR d s).d = (beginR (wipeR d 0 ((fileB d 0).length : Nat)).1 0 (firstB 1 s)).1 ∧ (openR d s).e ≠ 0) := Lib.hid (by rw [HOPN.out, HNEW.out, if_pos hbg]; exact ⟨rfl, rfl, hbg⟩)
          clear hbg HNEW HOPN HOP hpk
          generalize beginR (wipeR d 0 ((fileB d 0).length : Nat)).1 0 (firstB 1 s) = r2 at HBG HKB HEN hb1 hb2
          go_wp2_with fail
          refine HBG.out.mono ?_
          rintro e w12 ⟨rfl, cs12, h12, s12⟩
          have S9X := Lib.hid (S11.out.trans s12)
          have ST := Lib.hid (S9.out.trans S9X.out)
          have HA := Lib.hid h12
          have hkx := ((HST.out w12 cs12 S9X.out).1 (qb + 1) (by omega) (by omega)).trans HK9.out
          have HNK : Hid (¬ Ft p cs12 (qb + 1)) := Lib.hid ((HST.out w12 cs12 S9X.out).2 (qb + 1) (by omega) (by omega))
          clear h12 s12
          have HKX := Lib.hid hkx
          obtain ⟨⟨k0, k1, k2, k3, k4⟩, hkf⟩ := box_cells hkx
          have hR := HSN.out w12 cs12 ST.out
          have HRX := Lib.hid hR
          have hszx : w9.heap.size ≤ w12.heap.size := S9X.out.keep.1
          clear hkx hR hkf
          go_wp2_with (first | (at_builtin; refine app (w0 := w12) (base := w12.heap.size) rfl (.tmp 71) (.tmp 72) rfl rfl rfl (OwB.lit0 w12 _ (Nat.le_refl _)) (HRX.out.below (below_alloc (Below.refl _ _) _)) ((Below.refl w12.heap.size w12).alloc (Nat.le_refl _) _) ?s13 ?l13 ?_; (case s13 => simp); (case l13 => omega); intro A13 n13 c13 w13 ho hb; rw [List.nil_append] at ho; have HOA := Lib.hid ho; have hla := ho.len; rw [hl] at hla; subst hla; have HBA := Lib.hid hb; have hsa := hb.size; have hkA := (hb.block (qb + 1) (by omega)).trans HKX.out; have HKA := Lib.hid hkA; clear k0 k1 k2 k3 k4; obtain ⟨⟨k0, k1, k2, k3, k4⟩, hkf⟩ := box_cells hkA; have kf0 := hkf 0; have kf1 := hkf 1; have kf2 := hkf 2; have kf3 := hkf 3; have kf4 := hkf 4; clear hkf hkA; clear ho hb) | fail)
          have hX := box_put (box_put (box_put (box_put (box_put HKA.out 0 (.int .i64 1)) 1 (.slice A13 n c13)) 2 (.slice none 0 0)) 3 (.int .i64 0)) 4 (.int .i64 0)
          have hblk := set5_blk (j := 0) w13 (qb + 1) (.int .i64 1) (.slice A13 n c13) (.slice none 0 0) (.int .i64 0) (.int .i64 0)
          have hbel := set5_below w13 w.heap.size (qb + 1) 0 (by omega) (.int .i64 1) (.slice A13 n c13) (.slice none 0 0) (.int .i64 0) (.int .i64 0)
          have HFIN := Lib.hid (after_kb HA.out ST.out (show w.heap.size ≤ qb + 1 by omega) HNK.out (fun i hi hlt => (hblk i hi).trans (HBA.out.block i hlt)) ((HBA.out.mono (Nat.le_trans H.out.base_le ST.out.keep.1)).trans (hbel.mono H.out.base_le)))
          clear hX hblk hbel
          generalize ((((w13.setCell ⟨qb + 1, 0, none⟩ (.int .i64 1)).setCell ⟨qb + 1, 1, none⟩ (.slice A13 n c13)).setCell ⟨qb + 1, 2, none⟩ (.slice none 0 0)).setCell ⟨qb + 1, 3, none⟩ (.int .i64 0)).setCell ⟨qb + 1, 4, none⟩ (.int .i64 0) = wy at HFIN
          refine bodyPost_ret (results_tmp4 rfl _ _ _) rfl ?_
          obtain ⟨he, hd, hv⟩ := HEN.out
          refine .inl ⟨hv, by rw [he]; rfl, ?_⟩
          rw [hd]
          exact ⟨cs12, HFIN.out.1, HFIN.out.2⟩
      · have hw1 : ((wipeR d 0 ((fileB d 0).length : Nat)).2 == 0) = false := beq_eq_false_iff_ne.2 hw
        have hw2 : ((wipeR d 0 ((fileB d 0).length : Nat)).2 != 0) = true := by simp [hw]
        have HEN : Hid ((openR d s).e = (wipeR d 0 ((fileB d 0).length : Nat)).2 ∧ (openR d s).d = (wipeR d 0 ((fileB d 0).length : Nat)).1 ∧ (openR d s).e ≠ 0) := Lib.hid (by rw [HOPN.out, HNEW.out, if_pos hw]; exact ⟨rfl, rfl, hw⟩)
        clear hw HNEW HOPN HOP hpk
        generalize wipeR d 0 ((fileB d 0).length : Nat) = r2 at HW HKW HEN hw1 hw2
        go_wp2_with fail
        refine HW.out.mono ?_
        rintro e w11 ⟨rfl, cs11, h11, s11⟩
        have S9X := Lib.hid s11
        have ST := Lib.hid (S9.out.trans S9X.out)
        have HA := Lib.hid h11
        have hkx := ((HST.out w11 cs11 S9X.out).1 (qb + 1) (by omega) (by omega)).trans HK9.out
        have HNK : Hid (¬ Ft p cs11 (qb + 1)) := Lib.hid ((HST.out w11 cs11 S9X.out).2 (qb + 1) (by omega) (by omega))
        clear h11 s11
        have HKX := Lib.hid hkx
        obtain ⟨⟨k0, k1, k2, k3, k4⟩, hkf⟩ := box_cells hkx
        have hR := HSN.out w11 cs11 ST.out
        have HRX := Lib.hid hR
        have hszx : w9.heap.size ≤ w11.heap.size := S9X.out.keep.1
        clear hkx hR hkf
        go_wp2_with (first | (at_builtin; refine app (w0 := w11) (base := w11.heap.size) rfl (.tmp 71) (.tmp 72) rfl rfl rfl (OwB.lit0 w11 _ (Nat.le_refl _)) (HRX.out.below (below_alloc (Below.refl _ _) _)) ((Below.refl w11.heap.size w11).alloc (Nat.le_refl _) _) ?s13 ?l13 ?_; (case s13 => simp); (case l13 => omega); intro A13 n13 c13 w13 ho hb; rw [List.nil_append] at ho; have HOA := Lib.hid ho; have hla := ho.len; rw [hl] at hla; subst hla; have HBA := Lib.hid hb; have hsa := hb.size; have hkA := (hb.block (qb + 1) (by omega)).trans HKX.out; have HKA := Lib.hid hkA; clear k0 k1 k2 k3 k4; obtain ⟨⟨k0, k1, k2, k3, k4⟩, hkf⟩ := box_cells hkA; have kf0 := hkf 0; have kf1 := hkf 1; have kf2 := hkf 2; have kf3 := hkf 3; have kf4 := hkf 4; clear hkf hkA; clear ho hb) | fail)
        have hX := box_put (box_put (box_put (box_put (box_put HKA.out 0 (.int .i64 1)) 1 (.slice A13 n c13)) 2 (.slice none 0 0)) 3 (.int .i64 0)) 4 (.int .i64 0)
        have hblk := set5_blk (j := 0) w13 (qb + 1) (.int .i64 1) (.slice A13 n c13) (.slice none 0 0) (.int .i64 0) (.int .i64 0)
        have hbel := set5_below w13 w.heap.size (qb + 1) 0 (by omega) (.int .i64 1) (.slice A13 n c13) (.slice none 0 0) (.int .i64 0) (.int .i64 0)
        have HFIN := Lib.hid (after_kb HA.out ST.out (show w.heap.size ≤ qb + 1 by omega) HNK.out (fun i hi hlt => (hblk i hi).trans (HBA.out.block i hlt)) ((HBA.out.mono (Nat.le_trans H.out.base_le ST.out.keep.1)).trans (hbel.mono H.out.base_le)))
        clear hX hblk hbel
        generalize ((((w13.setCell ⟨qb + 1, 0, none⟩ (.int .i64 1)).setCell ⟨qb + 1, 1, none⟩ (.slice A13 n c13)).setCell ⟨qb + 1, 2, none⟩ (.slice none 0 0)).setCell ⟨qb + 1, 3, none⟩ (.int .i64 0)).setCell ⟨qb + 1, 4, none⟩ (.int .i64 0) = wy at HFIN
        refine bodyPost_ret (results_tmp4 rfl _ _ _) rfl ?_
        obtain ⟨he, hd, hv⟩ := HEN.out
        refine .inl ⟨hv, by rw [he]; rfl, ?_⟩
        rw [hd]
        exact ⟨cs11, HFIN.out.1, HFIN.out.2⟩
    · have hpk : pick d = 0 := if_neg hgt
      have HOPN : Hid (openR d s = oldR d 0) := Lib.hid (by rw [HOP.out, hpk, if_neg hgn])
      have HOLD : Hid (oldR d 0 = if (wipeR d 1 (fileB d 1).length).2 ≠ 0 then ⟨(wipeR d 1 (fileB d 1).length).1, (wipeR d 1 (fileB d 1).length).2, noV⟩ else ⟨(mendR (wipeR d 1 (fileB d 1).length).1 0 (E (fileB d 0) : Nat) (fileB d 0).length).1, (mendR (wipeR d 1 (fileB d 1).length).1 0 (E (fileB d 0) : Nat) (fileB d 0).length).2, ⟨0, (lookF (fileB d 0)).1, (lookF (fileB d 0)).2.1, (lookF (fileB d 0)).2.2⟩⟩) := Lib.hid rfl
      have hgb : ((lookF (fileB d 0)).1 == 0) = false := beq_eq_false_iff_ne.2 hgn
      have hgp : 0 < (lookF (fileB d 0)).1 := by have := (lookP_range (ps := P (fileB d 0))).1; have h2 : (lookF (fileB d 0)).1 = (lookP (P (fileB d 0))).1 := rfl; omega
      have HBV := Lib.hid (below_alloc (Below.refl w7.heap.size w7) (.cells #[.pointer (some ⟨p, 0, none⟩), .int .i64 0, .int .i64 0, .int .i64 0, .int .i64 0] 71))
      have hq8 : (w7.alloc (.cells #[.pointer (some ⟨p, 0, none⟩), .int .i64 0, .int .i64 0, .int .i64 0, .int .i64 0] 71)).heap[w7.heap.size]? = some (.cells #[.pointer (some ⟨p, 0, none⟩), .int .i64 0, .int .i64 0, .int .i64 0, .int .i64 0] 71 (0, 0)) := World.alloc_heap_new w7 _
      have hz8 : (w7.alloc (.cells #[.pointer (some ⟨p, 0, none⟩), .int .i64 0, .int .i64 0, .int .i64 0, .int .i64 0] 71)).heap.size = w7.heap.size + 1 := by simp
      have HX8 := Lib.hid (HBV.out.block fb (by omega))
      clear HBV
      have hf8 := HX8.out.trans HFB7.out
      unfold fcells at hf8
      obtain ⟨⟨q0, q1, q2, q3, q4, q5, q6, q7, q8, q9⟩, _⟩ := fbox hf8
      go_wp2_with fail
      have hk9 : ((w7.alloc (.cells #[.pointer (some ⟨p, 0, none⟩), .int .i64 0, .int .i64 0, .int .i64 0, .int .i64 0] 71)).alloc (.cells #[.int .i64 (lookF (fileB d 0)).1, .slice A0 n0 c0, .slice D0 m0 e0, .int .i64 ((fileB d 0).length : Nat), .int .i64 (E (fileB d 0) : Nat)] 66)).heap[(w7.alloc (.cells #[.pointer (some ⟨p, 0, none⟩), .int .i64 0, .int .i64 0, .int .i64 0, .int .i64 0] 71)).heap.size]? = some (.cells #[.int .i64 (lookF (fileB d 0)).1, .slice A0 n0 c0, .slice D0 m0 e0, .int .i64 ((fileB d 0).length : Nat), .int .i64 (E (fileB d 0) : Nat)] 66 (0, 0)) := World.alloc_heap_new _ _
      rw [hz8] at hk9
      have B89 := Lib.hid (below_alloc (Below.refl (w7.alloc (.cells #[.pointer (some ⟨p, 0, none⟩), .int .i64 0, .int .i64 0, .int .i64 0, .int .i64 0] 71)).heap.size (w7.alloc (.cells #[.pointer (some ⟨p, 0, none⟩), .int .i64 0, .int .i64 0, .int .i64 0, .int .i64 0] 71))) (.cells #[.int .i64 (lookF (fileB d 0)).1, .slice A0 n0 c0, .slice D0 m0 e0, .int .i64 ((fileB d 0).length : Nat), .int .i64 (E (fileB d 0) : Nat)] 66))
      have hz9 : ((w7.alloc (.cells #[.pointer (some ⟨p, 0, none⟩), .int .i64 0, .int .i64 0, .int .i64 0, .int .i64 0] 71)).alloc (.cells #[.int .i64 (lookF (fileB d 0)).1, .slice A0 n0 c0, .slice D0 m0 e0, .int .i64 ((fileB d 0).length : Nat), .int .i64 (E (fileB d 0) : Nat)] 66)).heap.size = w7.heap.size + 1 + 1 := by simp
      have hq9 := (B89.out.block w7.heap.size (by omega)).trans hq8
      have hf9 := (B89.out.block fb (by omega)).trans (HX8.out.trans HFB7.out)
      have B79 : Hid (Below w7.heap.size w7 ((w7.alloc (.cells #[.pointer (some ⟨p, 0, none⟩), .int .i64 0, .int .i64 0, .int .i64 0, .int .i64 0] 71)).alloc (.cells #[.int .i64 (lookF (fileB d 0)).1, .slice A0 n0 c0, .slice D0 m0 e0, .int .i64 ((fileB d 0).length : Nat), .int .i64 (E (fileB d 0) : Nat)] 66))) := Lib.hid ((below_alloc (Below.refl w7.heap.size w7) _).trans (B89.out.mono (by omega)))
      clear B89 q0 q1 q2 q3 q4 q5 q6 q7 q8 q9 hf8 HX8 hq8 hz8
      generalize (w7.alloc (.cells #[.pointer (some ⟨p, 0, none⟩), .int .i64 0, .int .i64 0, .int .i64 0, .int .i64 0] 71)).alloc (.cells #[.int .i64 (lookF (fileB d 0)).1, .slice A0 n0 c0, .slice D0 m0 e0, .int .i64 ((fileB d 0).length : Nat), .int .i64 (E (fileB d 0) : Nat)] 66) = w9 at hk9 hz9 hq9 hf9 B79 ⊢
      have B29 := Lib.hid (B27.out.trans (B79.out.mono (by omega)))
      have H9 := Lib.hid (H7.out.below B79.out)
      have HGF : Hid (Got (fun j => w3.heap.size ≤ j ∧ j < w4.heap.size) w9 w3.heap.size A0 n0 c0 (lookF (fileB d 0)).2.1 D0 m0 e0 cells0 (lookF (fileB d 0)).2.2) := Lib.hid (HG70.out.kp ⟨B79.out.size, fun i hi hl => B79.out.block i hl⟩)
      have HQ9 : Hid (VB w9 w7.heap.size p 0 0 0 0) := Lib.hid ⟨hq9⟩
      have HK9 := Lib.hid hk9
      have HF9 := Lib.hid hf9
      have HFT : Hid (∀ i : Nat, w.heap.size ≤ i → ¬ Ft p cs i) := Lib.hid fun i hi hft => by have := (H.out.ft hft).2; omega
      clear HG70 HG71 H7 B79 HFB7 hk9 hq9 hf9 HO7
      have hqw : w.heap.size ≤ w7.heap.size := by omega
      generalize hqb : w7.heap.size = qb at *
      obtain ⟨_, v1, _⟩ := HQ9.out.cells
      have hf9 := HF9.out
      unfold fcells at hf9
      obtain ⟨⟨q0, q1, q2, q3, q4, q5, q6, q7, q8, q9⟩, _⟩ := fbox hf9
      have hwr0 : IntKind.i64.wrap 0 = 0 := by decide
      have hwr1 : IntKind.i64.wrap 1 = 1 := by decide
      go_still_tail 14, (by kernel_rfl)
      clear hwr0 hwr1
      have H10 := Lib.hid H9.out.drewd
      have S10 := Lib.hid (DStep.below (p := p) (cs := cs) B29.out.drew H.out.base_le)
      have hs10 : w9.drew.heap.size = w9.heap.size := rfl
      have HB10 : Hid (∀ i : Nat, w9.drew.heap[i]? = w9.heap[i]?) := Lib.hid fun i => rfl
      have HGD := Lib.hid (HGF.out.kp (w1 := w9.drew) ⟨Nat.le_refl _, fun i _ _ => rfl⟩)
      change wpList _ _ _ _ _ w9.drew
      generalize w9.drew = w10 at H10 S10 hs10 HB10 HGD ⊢
      clear v1 q0 q1 q2 q3 q4 q5 q6 q7 q8 q9 hf9
      have HW := Lib.hid (wipe_any H10.out (HK.out.fit (by omega) (by omega)) 1 ((fileB d 1).length : Nat))
      have HKW := Lib.hid (Ok.wipe HK.out 1 ((fileB d 1).length : Nat))
      by_cases hw : (wipeR d 1 ((fileB d 1).length : Nat)).2 = 0
      · have HOLD2 := Lib.hid (HOLD.out.trans (if_neg (fun h => h hw)))
        rw [hw] at HW
        generalize (wipeR d 1 ((fileB d 1).length : Nat)).1 = d1 at HW HKW HOLD2
        go_wp2_with fail
        refine HW.out.mono ?_
        rintro e w11 ⟨rfl, cs11, h11, s11⟩
        have hkeep : ∀ i : Nat, w.heap.size ≤ i → i < w9.heap.size → w11.heap[i]? = w9.heap[i]? := fun i h1 h2 => (s11.keep.2 i (HFT.out i h1) (by omega)).trans (HB10.out i)
        have HQ11 := Lib.hid (HQ9.out.block (hkeep qb hqw (by omega)))
        have hk11 := (hkeep (qb + 1) (by omega) (by omega)).trans HK9.out
        have hf11 := (hkeep fb (by omega) (by omega)).trans HF9.out
        have HNQ : Hid (¬ Ft p cs11 qb) := Lib.hid fun h => by
          rcases s11.foot qb h with h | h
          · exact HFT.out qb hqw h
          · omega
        have S11 := Lib.hid (S10.out.trans s11)
        have hs11 := s11.keep.1
        have H11 := Lib.hid h11
        have HG11 := Lib.hid (HGD.out.kp ⟨hs11, fun i hi hl => s11.keep.2 i (HFT.out i (by omega)) hl⟩)
        have HFT11 : Hid (∀ i : Nat, w.heap.size ≤ i → i < w9.heap.size → ¬ Ft p cs11 i) := Lib.hid fun i h1 h2 h => by
          rcases s11.foot i h with h | h
          · exact HFT.out i h1 h
          · omega
        have HK11 := Lib.hid hk11
        obtain ⟨⟨k0, k1, k2, k3, k4⟩, _⟩ := box_cells hk11
        unfold fcells at hf11
        obtain ⟨⟨q0, _, _, _, _, q5, _, _, _, _⟩, _⟩ := fbox hf11
        obtain ⟨_, v1, _⟩ := HQ11.out.cells
        clear h11 s11 hkeep hk11 hf11
        have HM := Lib.hid (mend_any H11.out HKW.out (by omega) (by omega) HQ11.out HNQ.out (lookF (fileB d 0)).1 A0 n0 c0 D0 m0 e0 ((fileB d 0).length : Nat) (E (fileB d 0) : Nat) (by omega) (by omega))
        unfold keptV at HM
        have HKM := Lib.hid (Ok.mend HKW.out 0 (E (fileB d 0) : Nat) ((fileB d 0).length : Nat))
        by_cases hm : (mendR d1 0 (E (fileB d 0) : Nat) ((fileB d 0).length : Nat)).2 = 0
        · have hm' := hm
          rw [hm] at HM
          have HEN : Hid ((openR d s).e = 0 ∧ (openR d s).d = (mendR d1 0 (E (fileB d 0) : Nat) ((fileB d 0).length : Nat)).1 ∧ (openR d s).v = ⟨0, (lookF (fileB d 0)).1, (lookF (fileB d 0)).2.1, (lookF (fileB d 0)).2.2⟩) := Lib.hid (by rw [HOPN.out, HOLD2.out]; exact ⟨hm', rfl, rfl⟩)
          have HPK := Lib.hid hpk
          clear hm hm' HOLD2 HOLD HOPN HOP hpk
          generalize (mendR d1 0 (E (fileB d 0) : Nat) ((fileB d 0).length : Nat)).1 = d2 at HM HKM HEN
          go_wp2_with fail
          refine HM.out.mono ?_
          rintro e w12 ⟨rfl, cs12, h12, s12⟩
          have hkeep : ∀ i : Nat, w.heap.size ≤ i → i < w9.heap.size → w12.heap[i]? = w11.heap[i]? := fun i h1 h2 => s12.keep.2 i (HFT11.out i h1 h2) (by omega)
          have HQ12 := Lib.hid (HQ11.out.block (hkeep qb hqw (by omega)))
          have hk12 := (hkeep (qb + 1) (by omega) (by omega)).trans HK11.out
          have hnq : ¬ Ft p cs12 qb := fun h => by
            rcases s12.foot qb h with h | h
            · exact HNQ.out h
            · omega
          have S12 := Lib.hid (S11.out.trans s12)
          have H12 := Lib.hid h12
          have HG12 := Lib.hid (HG11.out.kp ⟨s12.keep.1, fun i hi hl => s12.keep.2 i (HFT11.out i (by omega) (by omega)) hl⟩)
          have HFT12 : Hid (∀ i : Nat, w.heap.size ≤ i → i < w9.heap.size → ¬ Ft p cs12 i) := Lib.hid fun i h1 h2 h => by
            rcases s12.foot i h with h | h
            · exact HFT11.out i h1 h2 h
            · omega
          have HNQ := Lib.hid hnq
          have HK12 := Lib.hid hk12
          have hs12 := s12.keep.1
          clear h12 s12 hkeep hk12 hnq k0 k1 k2 k3 k4 q0 q5 v1
          obtain ⟨⟨k0, k1, k2, k3, k4⟩, _⟩ := box_cells HK12.out
          obtain ⟨_, _, v2, v3, _⟩ := HQ12.out.cells
          have fr2 := HQ12.out.free 2
          have fr3 := HQ12.out.free 3
          go_upto_region 29 with fail
          go_cut [] from 110 to 120 (fun wx => wx = ((w12.setCell ⟨qb, 2, none⟩ (.int .i64 (lookF (fileB d 0)).1)).setCell ⟨qb, 3, none⟩ (.int .i64 (m0 : Nat))).drew)
          case first =>
            go_region
            all_goals go_wp2_with fail
            all_goals go_meet
            all_goals (case rel => rfl)
          case rest =>
            have hblk : ∀ i : Nat, i ≠ qb → wc.heap[i]? = w12.heap[i]? := fun i hi => by
              rw [hcut]
              show ((w12.setCell ⟨qb, 2, none⟩ (.int .i64 (lookF (fileB d 0)).1)).setCell ⟨qb, 3, none⟩ (.int .i64 (m0 : Nat))).heap[i]? = _
              rw [Below.heap_setCell _ _ _ _ hi, Below.heap_setCell _ _ _ _ hi]
            have hbel : Below w.heap.size w12 wc := by
              rw [hcut]
              exact ((((Below.refl w.heap.size w12).setCell (p := ⟨qb, 2, none⟩) hqw _).setCell (p := ⟨qb, 3, none⟩) hqw _)).drew
            have hq13 : VB wc qb p 0 (lookF (fileB d 0)).1 (m0 : Nat) 0 := ⟨by
              rw [hcut]
              exact box_put (box_put HQ12.out.box 2 (.int .i64 (lookF (fileB d 0)).1)) 3 (.int .i64 (m0 : Nat))⟩
            clear hcut
            have HA13 : Hid (DAt wc base p cs12 d2) := Lib.hid (H12.out.blocks fun g hg => hblk g (fun e => HNQ.out (e ▸ hg)))
            have hsz12 := hbel.size
            have HS13 : Hid (DStep w base p cs wc cs12) := Lib.hid ⟨⟨Nat.le_trans S12.out.keep.1 hsz12, fun i hi hlt => (hblk i (by omega)).trans (S12.out.keep.2 i hi hlt)⟩, S12.out.foot, S12.out.bel.trans (hbel.mono H.out.base_le)⟩
            have HG13 := Lib.hid (HG12.out.kp (w1 := wc) ⟨hsz12, fun i hi _ => hblk i (by omega)⟩)
            have hk13 := (hblk (qb + 1) (by omega)).trans HK12.out
            have HQ13 := Lib.hid hq13
            clear hblk hbel hq13 k0 k1 k2 k3 k4 v2 v3 fr2 fr3
            obtain ⟨⟨_, k1, k2, _, _⟩, _⟩ := box_cells hk13
            clear hk13
            go_wp2_with fail
            go_quiet (fail)
            go_wp2
            obtain ⟨he, hd, hv⟩ := HEN.out
            have hD := pw_below_drewN (Below.refl wc.heap.size wc) nq
            have hml : (lookF (fileB d 0)).2.2.length = m0 := by rw [← HG13.out.each.len]; exact OwV.len HG13.out.rows
            refine bodyPost_ret (results_tmp4 rfl _ _ _) rfl ?_
            refine .inr ⟨he, qb, A0, n0, c0, D0, m0, e0, cells0, cs12, rfl, ?_, HS13.out.trans (DStep.below hD (Nat.le_trans H.out.base_le HS13.out.keep.1)), ?_, ⟨hqw, HNQ.out⟩, ?_⟩
            · rw [hd]; exact HA13.out.below hD
            · rw [hv]
              show VB _ qb p (((0 : Nat)) : Int) (lookF (fileB d 0)).1 (((lookF (fileB d 0)).2.2.length : Nat) : Int) 0
              rw [hml]
              exact HQ13.out.below hD
            · rw [hv]
              exact ⟨((HG13.out.kp (w1 := wc.drewN nq) ⟨hD.size, fun i _ hl => hD.block i hl⟩).less (by omega)).mono fun j hj => ⟨by omega, HFT12.out j (by omega) (by omega), by omega⟩, fun h => absurd (by rw [HPK.out] at h; exact h) hgn⟩
        · have hm1 : ((mendR d1 0 (E (fileB d 0) : Nat) ((fileB d 0).length : Nat)).2 == 0) = false := beq_eq_false_iff_ne.2 hm
          have hm2 : ((mendR d1 0 (E (fileB d 0) : Nat) ((fileB d 0).length : Nat)).2 != 0) = true := by simp [hm]
          have HEN : Hid ((openR d s).e = (mendR d1 0 (E (fileB d 0) : Nat) ((fileB d 0).length : Nat)).2 ∧ (openR d s).d = (mendR d1 0 (E (fileB d 0) : Nat) ((fileB d 0).length : Nat)).1 ∧ (openR d s).e ≠ 0) := Lib.hid (by rw [HOPN.out, HOLD2.out]; exact ⟨rfl, rfl, hm⟩)
          clear hm HOLD2 HOLD HOPN HOP hpk
          generalize mendR d1 0 (E (fileB d 0) : Nat) ((fileB d 0).length : Nat) = r2 at HM HKM HEN hm1 hm2
          go_wp2_with fail
          refine HM.out.mono ?_
          rintro e w12 hret
          have HRt := Lib.hid (RetD.from S11.out hret)
          obtain ⟨rfl, _⟩ := hret
          go_wp2
          refine bodyPost_ret (results_tmp4 rfl _ _ _) rfl ?_
          obtain ⟨he, hd, hv⟩ := HEN.out
          refine .inl ⟨hv, by rw [he]; rfl, ?_⟩
          rw [hd]
          exact HRt.out.2
      · have hw1 : ((wipeR d 1 ((fileB d 1).length : Nat)).2 == 0) = false := beq_eq_false_iff_ne.2 hw
        have hw2 : ((wipeR d 1 ((fileB d 1).length : Nat)).2 != 0) = true := by simp [hw]
        have HEN : Hid ((openR d s).e = (wipeR d 1 ((fileB d 1).length : Nat)).2 ∧ (openR d s).d = (wipeR d 1 ((fileB d 1).length : Nat)).1 ∧ (openR d s).e ≠ 0) := Lib.hid (by
          have h := HOPN.out.trans (HOLD.out.trans (if_pos hw))
          rw [h]
          exact ⟨rfl, rfl, hw⟩)
        clear hw HOLD HOPN HOP hpk
        generalize wipeR d 1 ((fileB d 1).length : Nat) = r2 at HW HKW HEN hw1 hw2
        go_wp2_with fail
        refine HW.out.mono ?_
        rintro e w11 hret
        have HRt := Lib.hid (RetD.from S10.out hret)
        obtain ⟨rfl, _⟩ := hret
        go_wp2
        refine bodyPost_ret (results_tmp4 rfl _ _ _) rfl ?_
        obtain ⟨he, hd, hv⟩ := HEN.out
        refine .inl ⟨hv, by rw [he]; rfl, ?_⟩
        rw [hd]
        exact HRt.out.2
end Go.Proofs.YtfinaikgikifcaaDoor.vaulto
/- What the vault's Append computes. -/
namespace Go.Proofs.YtfinaikgikifcaaDoor.vaulta
open Go.RowKit Go.Shelf Go.Proofs.YtfinaikgikifcaaDoorW.PrintWords Go.Proofs.YtfinaikgikifcaaDoor.base Go.Proofs.YtfinaikgikifcaaDoor.mem Go.Proofs.YtfinaikgikifcaaDoor.keep Go.Proofs.YtfinaikgikifcaaDoor.crcp Go.Proofs.YtfinaikgikifcaaDoor.crcw Go.Proofs.YtfinaikgikifcaaDoor.samew Go.Proofs.YtfinaikgikifcaaDoor.framep Go.Proofs.YtfinaikgikifcaaDoor.framew Go.Proofs.YtfinaikgikifcaaDoor.frameit Go.Proofs.YtfinaikgikifcaaDoor.framem Go.Proofs.YtfinaikgikifcaaDoor.framel Go.Proofs.YtfinaikgikifcaaDoor.diskp Go.Proofs.YtfinaikgikifcaaDoor.diskr Go.Proofs.YtfinaikgikifcaaDoor.diskw Go.Proofs.YtfinaikgikifcaaDoor.vaultp Go.Proofs.YtfinaikgikifcaaDoor.vaultw

/-- behind a step that stores into the vault's box -/
structure VStep (w : World) (base p : Nat) (cs : Nat → Sl) (q : Nat) (w' : World) (cs' : Nat → Sl) : Prop where
  keep : Kp (fun i => ¬ Ft p cs i ∧ i ≠ q) w w'
  foot : ∀ i, Ft p cs' i → Ft p cs i ∨ w.heap.size ≤ i
  bel : Below base w w'
/-- numbers of a vault: file, generation, count, the error -/
structure Vn where
  f : Int
  g : Int
  n : Int
  s : Int
/-- what a vault's call does: the disk, the vault, the answer -/
def vappR (d : D) (v : Vn) (ys : List Int) : D × Vn × Int :=
  if 1048576 < ys.length then (d, v, 3)
  else if v.s ≠ 0 then (d, v, v.s)
  else if (beginR d v.f (fenc ys)).2 ≠ 0 then ((beginR d v.f (fenc ys)).1, ⟨v.f, v.g, v.n, (beginR d v.f (fenc ys)).2⟩, (beginR d v.f (fenc ys)).2)
  else ((beginR d v.f (fenc ys)).1, ⟨v.f, v.g, v.n + 1, v.s⟩, 0)
/-- the vault and its disk behind a call -/
def VPost (w : World) (base p : Nat) (cs : Nat → Sl) (q : Nat) (d' : D) (v' : Vn) (w' : World) : Prop := ∃ cs', DAt w' base p cs' d' ∧ VStep w base p cs q w' cs' ∧ VB w' q p v'.f v'.g v'.n v'.s ∧ ¬ Ft p cs' q
def RetV (w : World) (base p : Nat) (cs : Nat → Sl) (q : Nat) (r : D × Vn × Int) (e : Ending) (w' : World) : Prop := e = .returned (.int .i64 r.2.2) ∧ VPost w base p cs q r.1 r.2.1 w'
section
variable {w w1 w2 : World} {base p q : Nat} {cs cs1 : Nat → Sl} {d : D} {v : Vn}
theorem VStep.of (h : DStep w base p cs w1 cs1) : VStep w base p cs q w1 cs1 := ⟨h.keep.mono fun _ _ h => h.1, h.foot, h.bel⟩
/-- a store into the vault's box behind steps of the disk -/
theorem VStep.set (h : DStep w base p cs w1 cs1) (hq : base ≤ q) (i : Nat) (x : Value) : VStep w base p cs q (w1.setCell ⟨q, i, none⟩ x) cs1 :=
  ⟨(h.keep.mono (Q := fun j => ¬ Ft p cs j ∧ j ≠ q) fun _ _ h => h.1).set (fun h => h.2 rfl) i x, h.foot, h.bel.setCell (p := ⟨q, i, none⟩) hq x⟩
theorem VStep.then (h : VStep w base p cs q w1 cs1) {cs2 : Nat → Sl} (k : DStep w1 base p cs1 w2 cs2) : VStep w base p cs q w2 cs2 :=
  ⟨⟨Nat.le_trans h.keep.1 k.keep.1, fun i hi hlt => (k.keep.2 i (fun hf => by
    rcases h.foot i hf with h1 | h1
    · exact hi.1 h1
    · omega) (Nat.lt_of_lt_of_le hlt h.keep.1)).trans (h.keep.2 i hi hlt)⟩, fun i hi => by
    rcases k.foot i hi with h1 | h1
    · exact h.foot i h1
    · exact .inr (Nat.le_trans h.keep.1 h1), h.bel.trans k.bel⟩
theorem VStep.put (h : VStep w base p cs q w1 cs1) (hq : base ≤ q) (i : Nat) (x : Value) : VStep w base p cs q (w1.setCell ⟨q, i, none⟩ x) cs1 :=
  ⟨h.keep.set (fun h => h.2 rfl) i x, h.foot, h.bel.setCell (p := ⟨q, i, none⟩) hq x⟩
theorem VStep.drew (h : VStep w base p cs q w1 cs1) : VStep w base p cs q w1.drew cs1 := ⟨⟨h.keep.1, h.keep.2⟩, h.foot, h.bel.drew⟩
theorem VStep.trans (h : VStep w base p cs q w1 cs1) {cs2 : Nat → Sl} (k : VStep w1 base p cs1 q w2 cs2) : VStep w base p cs q w2 cs2 :=
  ⟨⟨Nat.le_trans h.keep.1 k.keep.1, fun i hi hlt => (k.keep.2 i ⟨fun hf => by
    rcases h.foot i hf with h1 | h1
    · exact hi.1 h1
    · omega, hi.2⟩ (Nat.lt_of_lt_of_le hlt h.keep.1)).trans (h.keep.2 i hi hlt)⟩, fun i hi => by
    rcases k.foot i hi with h1 | h1
    · exact h.foot i h1
    · exact .inr (Nat.le_trans h.keep.1 h1), h.bel.trans k.bel⟩
theorem VB.put {f g n s : Int} (h : VB w q p f g n s) (i : Nat) (x : Value) : (w.setCell ⟨q, i, none⟩ x).heap[q]? = some (.cells (#[.pointer (some ⟨p, 0, none⟩), .int .i64 f, .int .i64 g, .int .i64 n, .int .i64 s].setIfInBounds i x) 71 (0, 0)) := by
  obtain ⟨hlt, hk⟩ := Array.getElem?_eq_some_iff.1 h.box
  show (w.heap.modify q _)[q]? = _
  rw [Array.getElem?_eq_getElem (by rw [Array.size_modify]; exact hlt), Array.getElem_modify_self, hk]
  rfl
theorem DAt.vset (h : DAt w base p cs d) (hq : ¬ Ft p cs q) (i : Nat) (x : Value) : DAt (w.setCell ⟨q, i, none⟩ x) base p cs d :=
  h.blocks fun g hg => Below.heap_setCell _ _ _ _ (fun e => hq (by have e : g = q := e; rw [← e]; exact hg))
end
theorem encode_ok (A : Option Addr) (n c : Nat) (xs : List Int) (w : World) (hr : RdB w A n xs) (hc : n ≤ c) (hn : n ≤ 1048576) (ht : Table w) :
    Calls Tryd.prog 37 #[.slice A n c] w (RetR w (fenc xs) 0) := by
  have := encode_any A n c xs w hr hc ht
  rw [decide_eq_true hn] at this
  exact this
theorem encode_long (A : Option Addr) (n c : Nat) (xs : List Int) (w : World) (hr : RdB w A n xs) (hc : n ≤ c) (hn : ¬ n ≤ 1048576) (ht : Table w) :
    Calls Tryd.prog 37 #[.slice A n c] w (RetR w [] 3) := by
  have := encode_any A n c xs w hr hc ht
  rw [decide_eq_false hn] at this
  exact this
set_option maxHeartbeats 1000000 in
set_option maxRecDepth 100000 in
theorem append_any {w : World} {base p q : Nat} {cs : Nat → Sl} {d : D} {v : Vn} {S N : Nat} (h : DAt w base p cs d) (hk : Ok d S N) (hv : VB w q p v.f v.g v.n v.s) (hq : base ≤ q) (hnq : ¬ Ft p cs q) (hn0 : 0 ≤ v.n ∧ v.n ≤ 4611686018427387904) (A : Option Addr) (n c : Nat) (ys : List Int) (hr : RdB w A n ys) (hc : n ≤ c) (hS : S + 1048584 ≤ 70368744177664) (hN : N + 2 ≤ 4611686018427387904) (ht : Table w) :
    Calls Tryd.prog 18 #[.pointer (some ⟨q, 0, none⟩), .slice A n c] w (RetV w base p cs q (vappR d v ys)) := by
  have hl := hr.len
  have HEO := Lib.hid (fun hn => encode_ok A n c ys w hr hc hn ht)
  have HEL := Lib.hid (fun hn => encode_long A n c ys w hr hc hn ht)
  have H := Lib.hid h
  have HK := Lib.hid hk
  have HV := Lib.hid hv
  have HNQ := Lib.hid hnq
  have hbs := h.base_le
  have hql := hv.lt
  clear h hk hv hr ht hnq
  by_cases hlong : n ≤ 1048576
  · have HE := Lib.hid (HEO.out hlong)
    have HA : Hid (vappR d v ys = if v.s ≠ 0 then (d, v, v.s) else if (beginR d v.f (fenc ys)).2 ≠ 0 then ((beginR d v.f (fenc ys)).1, ⟨v.f, v.g, v.n, (beginR d v.f (fenc ys)).2⟩, (beginR d v.f (fenc ys)).2) else ((beginR d v.f (fenc ys)).1, ⟨v.f, v.g, v.n + 1, v.s⟩, 0)) := Lib.hid (if_neg (by omega))
    have HFL := Lib.hid (fenc_len ys)
    clear HEO HEL
    go_enter Tryd.func18, Tryd.ntmps18
    go_wp2_with fail
    refine HE.out.mono ?_
    rintro e w2 ⟨A2, n2, c2, rfl, ho, hb⟩
    have B2 := Lib.hid hb
    have HO2 := Lib.hid ho
    have hl2 := ho.len
    rw [HFL.out] at hl2
    have hs2 := hb.size
    have H2 := Lib.hid (H.out.below hb)
    have HV2 := Lib.hid (HV.out.below hb)
    have S2 := Lib.hid (DStep.below (p := p) (cs := cs) hb hbs)
    clear ho hb
    obtain ⟨e0, e1, e2, e3, e4⟩ := HV2.out.cells
    by_cases hsk : v.s = 0
    · have HA := Lib.hid (HA.out.trans (if_neg (fun h => h hsk)))
      have HSK := Lib.hid hsk
      rw [hsk] at e4
      clear hsk e2 e3
      go_wp2_with fail
      go_still_tail 9, (by kernel_rfl)
      have H3 := Lib.hid H2.out.drewd
      have S3 := Lib.hid S2.out.drewd
      have HV3 := Lib.hid (HV2.out.below (Below.refl _ w2).drew)
      have HO3 := Lib.hid (HO2.out.below (Below.refl _ w2).drew)
      change wpList _ _ _ _ _ w2.drew
      generalize w2.drew = w3 at H3 S3 HV3 HO3 ⊢
      clear e0 e1 e4
      have HB := Lib.hid (begin_any H3.out HK.out v.f A2 n2 c2 (fenc ys) HO3.out.rd (by omega) hN)
      by_cases hb0 : (beginR d v.f (fenc ys)).2 = 0
      · have HA := Lib.hid (HA.out.trans (if_neg (fun h => h hb0)))
        rw [hb0] at HB
        generalize (beginR d v.f (fenc ys)).1 = d1 at HB HA
        clear hb0
        go_wp2_with fail
        refine HB.out.mono ?_
        rintro e w4 ⟨rfl, cs4, h4, s4⟩
        have S4 := Lib.hid (S3.out.trans s4)
        have H4 := Lib.hid h4
        have HV4 := Lib.hid (HV3.out.kept s4.keep HNQ.out)
        have HNQ4 : Hid (¬ Ft p cs4 q) := Lib.hid fun h => by
          rcases S4.out.foot q h with h | h
          · exact HNQ.out h
          · omega
        clear h4 s4
        obtain ⟨_, _, _, e3, _⟩ := HV4.out.cells
        have f3 := HV4.out.free 3
        go_wp2
        go_ret
        rw [HA.out]
        exact ⟨rfl, cs4, DAt.vset H4.out HNQ4.out 3 _, VStep.set S4.out hq 3 _, ⟨by have := VB.put HV4.out 3 (.int .i64 (v.n + 1)); exact this⟩, HNQ4.out⟩
      · have HA := Lib.hid (HA.out.trans (if_pos hb0))
        have hb1 : ((beginR d v.f (fenc ys)).2 == 0) = false := beq_eq_false_iff_ne.2 hb0
        have hb2 : ((beginR d v.f (fenc ys)).2 != 0) = true := by simp [hb0]
        clear hb0
        generalize beginR d v.f (fenc ys) = r at HB HA hb1 hb2
        go_wp2_with fail
        refine HB.out.mono ?_
        rintro e w4 ⟨rfl, cs4, h4, s4⟩
        have S4 := Lib.hid (S3.out.trans s4)
        have H4 := Lib.hid h4
        have HV4 := Lib.hid (HV3.out.kept s4.keep HNQ.out)
        have HNQ4 : Hid (¬ Ft p cs4 q) := Lib.hid fun h => by
          rcases S4.out.foot q h with h | h
          · exact HNQ.out h
          · omega
        clear h4 s4
        have HI := Lib.hid (ill_any HV4.out r.2)
        go_wp2_with fail
        refine HI.out.mono ?_
        rintro e w5 ⟨rfl, rfl⟩
        go_wp2
        go_ret
        rw [HA.out]
        exact ⟨rfl, cs4, DAt.vset H4.out HNQ4.out 4 _, VStep.set S4.out hq 4 _, ⟨VB.put HV4.out 4 (.int .i64 r.2)⟩, HNQ4.out⟩
    · have HA := Lib.hid (HA.out.trans (if_pos hsk))
      have hb1 : (v.s == 0) = false := beq_eq_false_iff_ne.2 hsk
      have hb2 : (v.s != 0) = true := by simp [hsk]
      clear hsk e2 e3
      go_wp2
      go_ret
      rw [HA.out]
      exact ⟨rfl, cs, H2.out, VStep.of S2.out, HV2.out, HNQ.out⟩
  · have HE := Lib.hid (HEL.out hlong)
    have HA : Hid (vappR d v ys = (d, v, 3)) := Lib.hid (if_pos (by omega))
    clear HEO HEL
    go_enter Tryd.func18, Tryd.ntmps18
    go_wp2_with fail
    refine HE.out.mono ?_
    rintro e w2 ⟨A2, n2, c2, rfl, ho, hb⟩
    have H2 := Lib.hid (H.out.below hb)
    have HV2 := Lib.hid (HV.out.below hb)
    have S2 := Lib.hid (DStep.below (p := p) (cs := cs) hb hbs)
    clear ho hb
    go_wp2
    go_ret
    rw [HA.out]
    exact ⟨rfl, cs, H2.out, VStep.of S2.out, HV2.out, HNQ.out⟩
end Go.Proofs.YtfinaikgikifcaaDoor.vaulta
/- What the vault's Checkpoint computes. -/
namespace Go.Proofs.YtfinaikgikifcaaDoor.vaulta
open Go.RowKit Go.Shelf Go.Proofs.YtfinaikgikifcaaDoorW.PrintWords Go.Proofs.YtfinaikgikifcaaDoor.base Go.Proofs.YtfinaikgikifcaaDoor.mem Go.Proofs.YtfinaikgikifcaaDoor.keep Go.Proofs.YtfinaikgikifcaaDoor.crcp Go.Proofs.YtfinaikgikifcaaDoor.crcw Go.Proofs.YtfinaikgikifcaaDoor.samew Go.Proofs.YtfinaikgikifcaaDoor.framep Go.Proofs.YtfinaikgikifcaaDoor.framew Go.Proofs.YtfinaikgikifcaaDoor.frameit Go.Proofs.YtfinaikgikifcaaDoor.framem Go.Proofs.YtfinaikgikifcaaDoor.framel Go.Proofs.YtfinaikgikifcaaDoor.diskp Go.Proofs.YtfinaikgikifcaaDoor.diskr Go.Proofs.YtfinaikgikifcaaDoor.diskw Go.Proofs.YtfinaikgikifcaaDoor.vaultp Go.Proofs.YtfinaikgikifcaaDoor.vaultw

def vckR (d : D) (v : Vn) (s : List Int) : D × Vn × Int :=
  if 1048576 < 8 + s.length then (d, v, 3)
  else if 4611686018427387904 ≤ v.g then (d, v, 23)
  else if v.s ≠ 0 then (d, v, v.s)
  else if (beginR d (1 - v.f) (firstB (v.g + 1) s)).2 ≠ 0 then ((beginR d (1 - v.f) (firstB (v.g + 1) s)).1, ⟨v.f, v.g, v.n, (beginR d (1 - v.f) (firstB (v.g + 1) s)).2⟩, (beginR d (1 - v.f) (firstB (v.g + 1) s)).2)
  else if (cutR (beginR d (1 - v.f) (firstB (v.g + 1) s)).1 (1 - (1 - v.f)) 0).2 ≠ 0 then ((cutR (beginR d (1 - v.f) (firstB (v.g + 1) s)).1 (1 - (1 - v.f)) 0).1, ⟨1 - v.f, v.g + 1, 0, (cutR (beginR d (1 - v.f) (firstB (v.g + 1) s)).1 (1 - (1 - v.f)) 0).2⟩, (cutR (beginR d (1 - v.f) (firstB (v.g + 1) s)).1 (1 - (1 - v.f)) 0).2)
  else ((cutR (beginR d (1 - v.f) (firstB (v.g + 1) s)).1 (1 - (1 - v.f)) 0).1, ⟨1 - v.f, v.g + 1, 0, v.s⟩, 0)
theorem firstR_ok {g : Int} {s : List Int} (h : ¬ 1048576 < 8 + s.length) : firstR g s = (firstB g s, 0) := if_pos (by omega)
theorem firstR_long {g : Int} {s : List Int} (h : 1048576 < 8 + s.length) : firstR g s = ([], 3) := if_neg (by omega)
set_option maxHeartbeats 2000000 in
set_option maxRecDepth 100000 in
theorem checkpoint_any {w : World} {base p q : Nat} {cs : Nat → Sl} {d : D} {v : Vn} {S N : Nat} (h : DAt w base p cs d) (hk : Ok d S N) (hv : VB w q p v.f v.g v.n v.s) (hq : base ≤ q) (hnq : ¬ Ft p cs q) (hf : v.f = 0 ∨ v.f = 1) (hg : 0 ≤ v.g ∧ v.g ≤ 4611686018427387904) (A : Option Addr) (n c : Nat) (s : List Int) (hr : RdB w A n s) (hn : n + 8 ≤ 140737488355328) (hS : S + 1048584 ≤ 70368744177664) (hN : N + 3 ≤ 4611686018427387904) (ht : Table w) :
    Calls Tryd.prog 19 #[.pointer (some ⟨q, 0, none⟩), .slice A n c] w (RetV w base p cs q (vckR d v s)) := by
  have hl := hr.len
  have HF := Lib.hid (first_any (v.g + 1) (by omega) A n c s w hr hn ht)
  have H := Lib.hid h
  have HK := Lib.hid hk
  have HV := Lib.hid hv
  have HNQ := Lib.hid hnq
  have hbs := h.base_le
  have hql := hv.lt
  obtain ⟨e0, e1, e2, e3, e4⟩ := hv.cells
  clear h hk hv hr ht hnq e3
  by_cases hlong : 1048576 < 8 + s.length
  · have HA : Hid (vckR d v s = (d, v, 3)) := Lib.hid (if_pos hlong)
    rw [firstR_long hlong] at HF
    go_enter Tryd.func19, Tryd.ntmps19
    go_wp2_with fail
    refine HF.out.mono ?_
    rintro e w2 ⟨A2, n2, c2, rfl, ho, hb⟩
    have H2 := Lib.hid (H.out.below hb)
    have HV2 := Lib.hid (HV.out.below hb)
    have S2 := Lib.hid (DStep.below (p := p) (cs := cs) hb hbs)
    clear ho hb
    go_wp2
    go_ret
    rw [HA.out]
    exact ⟨rfl, cs, H2.out, VStep.of S2.out, HV2.out, HNQ.out⟩
  · have HA : Hid (vckR d v s = _) := Lib.hid (if_neg hlong)
    rw [firstR_ok hlong] at HF
    have HFB : Hid ((firstB (v.g + 1) s).length = 8 + (8 + n)) := Lib.hid (by unfold firstB; rw [fenc_len, List.length_append, le8_len]; omega)
    go_enter Tryd.func19, Tryd.ntmps19
    go_wp2_with fail
    refine HF.out.mono ?_
    rintro e w2 ⟨A2, n2, c2, rfl, ho, hb⟩
    have HO2 := Lib.hid ho
    have hl2 := ho.len
    rw [HFB.out] at hl2
    have hs2 := hb.size
    have H2 := Lib.hid (H.out.below hb)
    have HV2 := Lib.hid (HV.out.below hb)
    have S2 := Lib.hid (DStep.below (p := p) (cs := cs) hb hbs)
    clear ho hb e0 e1 e2 e4
    obtain ⟨e0, e1, e2, e3, e4⟩ := HV2.out.cells
    by_cases hgb : 4611686018427387904 ≤ v.g
    · have HA := Lib.hid (HA.out.trans (if_pos hgb))
      go_wp2
      go_ret
      rw [HA.out]
      exact ⟨rfl, cs, H2.out, VStep.of S2.out, HV2.out, HNQ.out⟩
    have HA := Lib.hid (HA.out.trans (if_neg hgb))
    by_cases hsk : v.s = 0
    · have HA := Lib.hid (HA.out.trans (if_neg (fun h => h hsk)))
      have HSK := Lib.hid hsk
      rw [hsk] at e4
      clear hsk e3
      have hfb : 0 ≤ v.f ∧ v.f ≤ 1 := by omega
      go_wp2_with fail
      go_still_tail 10, (by kernel_rfl)
      have H3 := Lib.hid H2.out.drewd
      have S3 := Lib.hid S2.out.drewd
      have HV3 := Lib.hid (HV2.out.below (Below.refl _ w2).drew)
      have HO3 := Lib.hid (HO2.out.below (Below.refl _ w2).drew)
      change wpList _ _ _ _ _ w2.drew
      generalize w2.drew = w3 at H3 S3 HV3 HO3 ⊢
      clear e0 e1 e2 e4
      have HB := Lib.hid (begin_any H3.out HK.out (1 - v.f) A2 n2 c2 (firstB (v.g + 1) s) HO3.out.rd (by omega) (by omega))
      have hfbl := HFB.out
      have HKB := Lib.hid ((Ok.begin_ HK.out (1 - v.f) (firstB (v.g + 1) s)).fit (by omega) (by omega))
      by_cases hb0 : (beginR d (1 - v.f) (firstB (v.g + 1) s)).2 = 0
      · have HA := Lib.hid (HA.out.trans (if_neg (fun h => h hb0)))
        rw [hb0] at HB
        generalize (beginR d (1 - v.f) (firstB (v.g + 1) s)).1 = d1 at HB HA HKB
        clear hb0
        go_wp2_with fail
        refine HB.out.mono ?_
        rintro e w4 ⟨rfl, cs4, h4, s4⟩
        have S4 := Lib.hid (S3.out.trans s4)
        have H4 := Lib.hid h4
        have HV4 := Lib.hid (HV3.out.kept s4.keep HNQ.out)
        have HNQ4 : Hid (¬ Ft p cs4 q) := Lib.hid fun h => by
          rcases S4.out.foot q h with h | h
          · exact HNQ.out h
          · omega
        have hs4 := S4.out.keep.1
        clear h4 s4
        obtain ⟨e0, e1, e2, e3, e4⟩ := HV4.out.cells
        have f1 := HV4.out.free 1
        have f2 := HV4.out.free 2
        have f3 := HV4.out.free 3
        go_upto_region 13 with fail
        go_cut [] from 57 to 76 (fun wx => wx = (((w4.setCell ⟨q, 1, none⟩ (.int .i64 (1 - v.f))).setCell ⟨q, 2, none⟩ (.int .i64 (v.g + 1))).setCell ⟨q, 3, none⟩ (.int .i64 0)).drew)
        case first =>
          go_region
          all_goals go_wp2_with fail
          all_goals go_meet
          all_goals (case rel => rfl)
        case rest =>
          have SC : Hid (VStep w base p cs q wc cs4) := Lib.hid (by
            rw [hcut]
            exact ((((VStep.set S4.out hq 1 _).put hq 2 _).put hq 3 _)).drew)
          have HVC : Hid (VB wc q p (1 - v.f) (v.g + 1) 0 v.s) := Lib.hid ⟨by
            rw [hcut]
            have h1 : VB (w4.setCell ⟨q, 1, none⟩ (.int .i64 (1 - v.f))) q p (1 - v.f) v.g v.n v.s := ⟨VB.put HV4.out 1 _⟩
            have h2 : VB ((w4.setCell ⟨q, 1, none⟩ (.int .i64 (1 - v.f))).setCell ⟨q, 2, none⟩ (.int .i64 (v.g + 1))) q p (1 - v.f) (v.g + 1) v.n v.s := ⟨VB.put h1 2 _⟩
            exact VB.put h2 3 (.int .i64 0)⟩
          have HC : Hid (DAt wc base p cs4 d1) := Lib.hid (by
            rw [hcut]
            exact (DAt.vset (DAt.vset (DAt.vset H4.out HNQ4.out 1 _) HNQ4.out 2 _) HNQ4.out 3 _).drewd)
          have hsc : w4.heap.size ≤ wc.heap.size := by rw [hcut]; simp [World.setCell]
          clear hcut e0 e1 e2 e3 e4 f1 f2 f3
          obtain ⟨e0, e1, e2, e3, e4⟩ := HVC.out.cells
          have hsk := HSK.out
          rw [hsk] at e4
          clear hsk e2 e3
          go_wp2_with fail
          go_still_tail 9, (by kernel_rfl)
          have H5 := Lib.hid HC.out.drewd
          have S5 := Lib.hid SC.out.drew
          have HV5 := Lib.hid (HVC.out.below (Below.refl _ wc).drew)
          have hs5 : wc.drew.heap.size = wc.heap.size := rfl
          change wpList _ _ _ _ _ wc.drew
          generalize wc.drew = w5 at H5 S5 HV5 hs5 ⊢
          clear e0 e1 e4
          have HT := Lib.hid (trunc_any H5.out HKB.out (1 - (1 - v.f)) 0 (by omega))
          by_cases hc0 : (cutR d1 (1 - (1 - v.f)) 0).2 = 0
          · have HA := Lib.hid (HA.out.trans (if_neg (fun h => h hc0)))
            rw [hc0] at HT
            generalize (cutR d1 (1 - (1 - v.f)) 0).1 = d2 at HT HA
            clear hc0
            go_wp2_with fail
            refine HT.out.mono ?_
            rintro e w6 ⟨rfl, cs6, h6, s6⟩
            have S6 := Lib.hid (S5.out.then s6)
            have H6 := Lib.hid h6
            have HV6 := Lib.hid (HV5.out.kept s6.keep HNQ4.out)
            have HNQ6 : Hid (¬ Ft p cs6 q) := Lib.hid fun h => by
              rcases s6.foot q h with h | h
              · exact HNQ4.out h
              · omega
            clear h6 s6
            go_wp2
            go_ret
            rw [HA.out]
            exact ⟨rfl, cs6, H6.out, S6.out, HV6.out, HNQ6.out⟩
          · have HA := Lib.hid (HA.out.trans (if_pos hc0))
            have hc1 : ((cutR d1 (1 - (1 - v.f)) 0).2 == 0) = false := beq_eq_false_iff_ne.2 hc0
            have hc2 : ((cutR d1 (1 - (1 - v.f)) 0).2 != 0) = true := by simp [hc0]
            clear hc0
            generalize cutR d1 (1 - (1 - v.f)) 0 = r at HT HA hc1 hc2
            go_wp2_with fail
            refine HT.out.mono ?_
            rintro e w6 ⟨rfl, cs6, h6, s6⟩
            have S6 := Lib.hid (S5.out.then s6)
            have H6 := Lib.hid h6
            have HV6 := Lib.hid (HV5.out.kept s6.keep HNQ4.out)
            have HNQ6 : Hid (¬ Ft p cs6 q) := Lib.hid fun h => by
              rcases s6.foot q h with h | h
              · exact HNQ4.out h
              · omega
            clear h6 s6
            have HI := Lib.hid (ill_any HV6.out r.2)
            go_wp2_with fail
            refine HI.out.mono ?_
            rintro e w7 ⟨rfl, rfl⟩
            go_wp2
            go_ret
            rw [HA.out]
            exact ⟨rfl, cs6, DAt.vset H6.out HNQ6.out 4 _, S6.out.put hq 4 _, ⟨VB.put HV6.out 4 (.int .i64 r.2)⟩, HNQ6.out⟩
      · have HA := Lib.hid (HA.out.trans (if_pos hb0))
        have hb1 : ((beginR d (1 - v.f) (firstB (v.g + 1) s)).2 == 0) = false := beq_eq_false_iff_ne.2 hb0
        have hb2 : ((beginR d (1 - v.f) (firstB (v.g + 1) s)).2 != 0) = true := by simp [hb0]
        clear hb0
        generalize beginR d (1 - v.f) (firstB (v.g + 1) s) = r at HB HA hb1 hb2 HKB
        go_wp2_with fail
        refine HB.out.mono ?_
        rintro e w4 ⟨rfl, cs4, h4, s4⟩
        have S4 := Lib.hid (S3.out.trans s4)
        have H4 := Lib.hid h4
        have HV4 := Lib.hid (HV3.out.kept s4.keep HNQ.out)
        have HNQ4 : Hid (¬ Ft p cs4 q) := Lib.hid fun h => by
          rcases S4.out.foot q h with h | h
          · exact HNQ.out h
          · omega
        clear h4 s4
        have HI := Lib.hid (ill_any HV4.out r.2)
        go_wp2_with fail
        refine HI.out.mono ?_
        rintro e w5 ⟨rfl, rfl⟩
        go_wp2
        go_ret
        rw [HA.out]
        exact ⟨rfl, cs4, DAt.vset H4.out HNQ4.out 4 _, VStep.set S4.out hq 4 _, ⟨VB.put HV4.out 4 (.int .i64 r.2)⟩, HNQ4.out⟩
    · have HA := Lib.hid (HA.out.trans (if_pos hsk))
      have hb1 : (v.s == 0) = false := beq_eq_false_iff_ne.2 hsk
      have hb2 : (v.s != 0) = true := by simp [hsk]
      clear hsk e3
      go_wp2
      go_ret
      rw [HA.out]
      exact ⟨rfl, cs, H2.out, VStep.of S2.out, HV2.out, HNQ.out⟩
end Go.Proofs.YtfinaikgikifcaaDoor.vaulta
/- A vault's disk while the power stays: plain Lean. -/
namespace Go.Proofs.YtfinaikgikifcaaDoor.vaultp
open Go.RowKit Go.Shelf Go.Proofs.YtfinaikgikifcaaDoorW.PrintWords Go.Proofs.YtfinaikgikifcaaDoor.base Go.Proofs.YtfinaikgikifcaaDoor.mem Go.Proofs.YtfinaikgikifcaaDoor.crcp Go.Proofs.YtfinaikgikifcaaDoor.crcw Go.Proofs.YtfinaikgikifcaaDoor.samew Go.Proofs.YtfinaikgikifcaaDoor.framep Go.Proofs.YtfinaikgikifcaaDoor.frameit Go.Proofs.YtfinaikgikifcaaDoor.framem Go.Proofs.YtfinaikgikifcaaDoor.framel Go.Proofs.YtfinaikgikifcaaDoor.framea Go.Proofs.YtfinaikgikifcaaDoor.framer Go.Proofs.YtfinaikgikifcaaDoor.framen Go.Proofs.YtfinaikgikifcaaDoor.diskp Go.Proofs.YtfinaikgikifcaaDoor.diskr Go.Proofs.YtfinaikgikifcaaDoor.diskw Go.Proofs.YtfinaikgikifcaaDoor.vaulta

theorem Ok.vapp {d : D} {S N : Nat} (h : Ok d S N) (v : Vn) (ys : List Int) : Ok (vappR d v ys).1 (S + 1048584) (N + 2) := by
  unfold vappR
  split
  · exact h.more (by omega) (by omega)
  · have hl := fenc_len ys
    split
    · exact h.more (by omega) (by omega)
    · split
      · exact (Ok.begin_ h _ (fenc ys)).more (by omega) (by omega)
      · exact (Ok.begin_ h _ (fenc ys)).more (by omega) (by omega)
theorem Ok.vck {d : D} {S N : Nat} (h : Ok d S N) (v : Vn) (s : List Int) : Ok (vckR d v s).1 (S + 1048584) (N + 3) := by
  unfold vckR
  split
  · exact h.more (by omega) (by omega)
  · have hl : (firstB (v.g + 1) s).length = 8 + (8 + s.length) := by unfold firstB; rw [fenc_len, List.length_append, le8_len]
    split
    · exact h.more (by omega) (by omega)
    · split
      · exact h.more (by omega) (by omega)
      · split
        · exact (Ok.begin_ h _ (firstB (v.g + 1) s)).more (by omega) (by omega)
        · split
          · exact ((Ok.begin_ h _ (firstB (v.g + 1) s)).cut _ _).more (by omega) (by omega)
          · exact ((Ok.begin_ h _ (firstB (v.g + 1) s)).cut _ _).more (by omega) (by omega)
/-- the power is on, and no write is armed -/
structure Live (d : D) : Prop where
  off : d.off = false
  a : d.a = 0
theorem raw_live {d : D} (h : Live d) : rawD d = (⟨d.b, d.off, d.n + 1, d.a, d.k⟩, false) := by unfold rawD; rw [if_pos h.a]
theorem gone_live {d : D} (h : Live d) : gone d = ⟨d.b, d.off, d.n + 1, d.a, d.k⟩ := by unfold gone; rw [raw_live h]; rfl
theorem rdy_live {d : D} (h : Live d) {f : Int} (hf : f = 0 ∨ f = 1) : rdy d f = 0 := by unfold rdy; rw [h.off, if_neg (by omega)]; rfl
theorem ans_false : ans false = 0 := rfl
theorem app_live {d : D} (h : Live d) {f : Nat} (hf : f < 2) (ys : List Int) : (appR d f ys).2 = 0 ∧ Live (appR d f ys).1 ∧ (appR d f ys).1.n = d.n + 1 ∧ (appR d f ys).1.b (2 * f + 1) = d.b (2 * f + 1) ++ ys ∧ ∀ i, i ≠ 2 * f + 1 → (appR d f ys).1.b i = d.b i := by
  have hr : rdy d (f : Int) = 0 := rdy_live h (by omega)
  have hp : Live (putB d (2 * f + 1) (d.b (2 * f + 1) ++ ys)) := ⟨h.off, h.a⟩
  unfold appR
  rw [hr, if_neg (by simp), raw_live h]
  unfold appD
  rw [Int.toNat_natCast, gone_live hp]
  exact ⟨rfl, ⟨h.off, h.a⟩, rfl, upd_same _ _ _, fun i hi => upd_ne _ _ hi⟩
theorem sync_live {d : D} (h : Live d) {f : Nat} (hf : f < 2) : (syncR d f).2 = 0 ∧ Live (syncR d f).1 ∧ (syncR d f).1.n = d.n + 1 ∧ (syncR d f).1.b (2 * f) = d.b (2 * f) ++ d.b (2 * f + 1) ∧ (syncR d f).1.b (2 * f + 1) = [] ∧ ∀ i, i ≠ 2 * f → i ≠ 2 * f + 1 → (syncR d f).1.b i = d.b i := by
  have hr : rdy d (f : Int) = 0 := rdy_live h (by omega)
  unfold syncR
  rw [hr, if_neg (by simp), raw_live h]
  unfold syncD
  rw [Int.toNat_natCast, raw_live h, gone_live h]
  refine ⟨rfl, ⟨h.off, h.a⟩, rfl, ?_, ?_, fun i h1 h2 => ?_⟩
  · show upd (upd d.b (2 * f) _) (2 * f + 1) [] (2 * f) = _
    rw [upd_ne _ _ (by omega), upd_same]
  · exact upd_same _ _ _
  · show upd (upd d.b (2 * f) _) (2 * f + 1) [] i = _
    rw [upd_ne _ _ h2, upd_ne _ _ h1]
theorem cut_live {d : D} (h : Live d) {f : Nat} (hf : f < 2) {n : Nat} (hn : n ≤ (fileB d f).length) : (cutR d f n).2 = 0 ∧ Live (cutR d f n).1 ∧ (cutR d f n).1.n = d.n + 1 ∧ (cutR d f n).1.b (2 * f) = (d.b (2 * f)).take n ∧ (cutR d f n).1.b (2 * f + 1) = (d.b (2 * f + 1)).take (n - (d.b (2 * f)).length) ∧ ∀ i, i ≠ 2 * f → i ≠ 2 * f + 1 → (cutR d f n).1.b i = d.b i := by
  have hr : rdy d (f : Int) = 0 := rdy_live h (by omega)
  unfold cutR
  rw [hr, if_neg (by simp), Int.toNat_natCast, if_neg (by omega), if_neg (by simp), raw_live h]
  unfold cutD
  rw [Int.toNat_natCast, raw_live h, gone_live h]
  refine ⟨rfl, ⟨h.off, h.a⟩, rfl, ?_, ?_, fun i h1 h2 => ?_⟩
  · exact upd_same _ _ _
  · show upd (upd d.b (2 * f + 1) _) (2 * f) _ (2 * f + 1) = _
    rw [upd_ne _ _ (by omega), upd_same]
  · show upd (upd d.b (2 * f + 1) _) (2 * f) _ i = _
    rw [upd_ne _ _ h1, upd_ne _ _ h2]
theorem begin_live {d : D} (h : Live d) {f : Nat} (hf : f < 2) (ys : List Int) : (beginR d f ys).2 = 0 ∧ Live (beginR d f ys).1 ∧ (beginR d f ys).1.n = d.n + 2 ∧ (beginR d f ys).1.b (2 * f) = d.b (2 * f) ++ (d.b (2 * f + 1) ++ ys) ∧ (beginR d f ys).1.b (2 * f + 1) = [] ∧ ∀ i, i ≠ 2 * f → i ≠ 2 * f + 1 → (beginR d f ys).1.b i = d.b i := by
  obtain ⟨a1, a2, a3, a4, a5⟩ := app_live h hf ys
  obtain ⟨s1, s2, s3, s4, s5, s6⟩ := sync_live a2 hf
  unfold beginR
  rw [if_pos a1]
  exact ⟨s1, s2, by rw [s3, a3]; omega, by rw [s4, a4, a5 _ (by omega)], s5, fun i h1 h2 => by rw [s6 i h1 h2, a5 i h2]⟩
theorem wipe_live {d : D} (h : Live d) {f : Nat} (hf : f < 2) : (wipeR d f (fileB d f).length).2 = 0 ∧ Live (wipeR d f (fileB d f).length).1 ∧ d.n ≤ (wipeR d f (fileB d f).length).1.n ∧ (fileB d f = [] → (wipeR d f (fileB d f).length).1.n = d.n) ∧ (wipeR d f (fileB d f).length).1.b (2 * f) = [] ∧ (wipeR d f (fileB d f).length).1.b (2 * f + 1) = [] ∧ ∀ i, i ≠ 2 * f → i ≠ 2 * f + 1 → (wipeR d f (fileB d f).length).1.b i = d.b i := by
  unfold wipeR
  by_cases h0 : ((fileB d f).length : Int) = 0
  · rw [if_pos h0]
    have he : fileB d f = [] := List.eq_nil_of_length_eq_zero (by omega)
    unfold fileB at he
    rw [List.append_eq_nil_iff] at he
    exact ⟨rfl, h, Int.le_refl _, fun _ => rfl, he.1, he.2, fun _ _ _ => rfl⟩
  · rw [if_neg h0]
    obtain ⟨c1, c2, c3, c4, c5, c6⟩ := cut_live h hf (n := 0) (by omega)
    refine ⟨c1, c2, by have := c3; show d.n ≤ (cutR d f ((0 : Nat) : Int)).1.n; omega, fun he => by rw [he] at h0; exact absurd rfl h0, by rw [show (0 : Int) = ((0 : Nat) : Int) from rfl, c4]; rfl, by rw [show (0 : Int) = ((0 : Nat) : Int) from rfl, c5]; simp, c6⟩
/-- a vault lies on the disk: one file with its frames, the other one empty -/
structure Neat (d : D) (f : Nat) (g : Int) (s : List Int) (rs : List (List Int)) : Prop where
  live : Live d
  hf : f < 2
  hg : 1 ≤ g ∧ g ≤ 4611686018427387904
  hs : 8 + s.length ≤ 1048576
  hr : ∀ r ∈ rs, r.length ≤ 1048576
  by_ : By s
  b : d.b (2 * f) = fencs ((le8 g ++ s) :: rs)
  w : d.b (2 * f + 1) = []
  o : d.b (2 * (1 - f)) = [] ∧ d.b (2 * (1 - f) + 1) = []
end Go.Proofs.YtfinaikgikifcaaDoor.vaultp
/- What an opening finds on a clean disk, and that an opening makes a disk clean: plain Lean. -/
namespace Go.Proofs.YtfinaikgikifcaaDoor.vaultp
open Go.RowKit Go.Shelf Go.Proofs.YtfinaikgikifcaaDoorW.PrintWords Go.Proofs.YtfinaikgikifcaaDoor.base Go.Proofs.YtfinaikgikifcaaDoor.mem Go.Proofs.YtfinaikgikifcaaDoor.crcp Go.Proofs.YtfinaikgikifcaaDoor.crcw Go.Proofs.YtfinaikgikifcaaDoor.samew Go.Proofs.YtfinaikgikifcaaDoor.framep Go.Proofs.YtfinaikgikifcaaDoor.framew Go.Proofs.YtfinaikgikifcaaDoor.frameit Go.Proofs.YtfinaikgikifcaaDoor.framem Go.Proofs.YtfinaikgikifcaaDoor.framel Go.Proofs.YtfinaikgikifcaaDoor.framea Go.Proofs.YtfinaikgikifcaaDoor.framer Go.Proofs.YtfinaikgikifcaaDoor.framen Go.Proofs.YtfinaikgikifcaaDoor.diskp Go.Proofs.YtfinaikgikifcaaDoor.diskr Go.Proofs.YtfinaikgikifcaaDoor.diskw Go.Proofs.YtfinaikgikifcaaDoor.vaulta

theorem getD_le8 (g : Int) (s : List Int) {i : Nat} (hi : i < 8) : (le8 g ++ s).getD i 0 = byte8 g i := by
  rw [List.getD_eq_getElem?_getD, List.getElem?_append_left (by rw [le8_len]; exact hi)]
  unfold le8
  rw [List.getElem?_map, List.getElem?_range hi]
  rfl
theorem byte8_nat (m i : Nat) : byte8 (m : Int) i = ((m / 2 ^ (8 * i) % 256 : Nat) : Int) := by
  unfold byte8
  rw [show (2 : Int) ^ (8 * i) = ((2 ^ (8 * i) : Nat) : Int) from (Int.natCast_pow 2 (8 * i)).symm]
  omega
theorem leP_le8 (m : Nat) (s : List Int) : ∀ k, k ≤ 8 → leP (le8 (m : Int) ++ s) k = ((m % 256 ^ k : Nat) : Int)
  | 0, _ => by
    rw [Nat.pow_zero, Nat.mod_one]
    rfl
  | k + 1, h => by
    have ep : (256 : Nat) ^ k = 2 ^ (8 * k) := by rw [show (256 : Nat) = 2 ^ 8 from rfl, ← Nat.pow_mul]
    unfold leP
    rw [leP_le8 m s k (by omega), getD_le8 _ _ (by omega), byte8_nat, Nat.pow_succ, Nat.mod_mul, ep]
    rw [show (256 : Int) ^ k = ((2 ^ (8 * k) : Nat) : Int) from by rw [← ep]; exact (Int.natCast_pow 256 k).symm, Int.natCast_add, Int.natCast_mul]
theorem leN_le8 {g : Int} (hg : 0 ≤ g ∧ g ≤ 4611686018427387905) (s : List Int) : leN (le8 g ++ s) = g := by
  obtain ⟨m, rfl⟩ := Int.eq_ofNat_of_zero_le hg.1
  unfold leN
  rw [leP_le8 m s 8 (by omega), Nat.mod_eq_of_lt]
  have : (256 : Nat) ^ 8 = 18446744073709551616 := by decide
  omega
theorem good_le8 {g : Int} (hg : 1 ≤ g ∧ g ≤ 4611686018427387904) (s : List Int) : goodP (le8 g ++ s) := by
  refine ⟨by rw [List.length_append, le8_len]; omega, ?_⟩
  rw [leN_le8 (by omega)]
  exact hg
theorem drop_le8 (g : Int) (s : List Int) : (le8 g ++ s).drop 8 = s := List.drop_left' (le8_len g)
theorem bytes8 {x0 x1 x2 x3 x4 x5 x6 x7 : Int} (h0 : 0 ≤ x0 ∧ x0 ≤ 255) (h1 : 0 ≤ x1 ∧ x1 ≤ 255) (h2 : 0 ≤ x2 ∧ x2 ≤ 255) (h3 : 0 ≤ x3 ∧ x3 ≤ 255) (h4 : 0 ≤ x4 ∧ x4 ≤ 255) (h5 : 0 ≤ x5 ∧ x5 ≤ 255) (h6 : 0 ≤ x6 ∧ x6 ≤ 255) (h7 : 0 ≤ x7 ∧ x7 ≤ 255) :
    byte8 (x0 + 256 * x1 + 65536 * x2 + 16777216 * x3 + 4294967296 * x4 + 1099511627776 * x5 + 281474976710656 * x6 + 72057594037927936 * x7) 0 = x0 ∧
    byte8 (x0 + 256 * x1 + 65536 * x2 + 16777216 * x3 + 4294967296 * x4 + 1099511627776 * x5 + 281474976710656 * x6 + 72057594037927936 * x7) 1 = x1 ∧
    byte8 (x0 + 256 * x1 + 65536 * x2 + 16777216 * x3 + 4294967296 * x4 + 1099511627776 * x5 + 281474976710656 * x6 + 72057594037927936 * x7) 2 = x2 ∧
    byte8 (x0 + 256 * x1 + 65536 * x2 + 16777216 * x3 + 4294967296 * x4 + 1099511627776 * x5 + 281474976710656 * x6 + 72057594037927936 * x7) 3 = x3 ∧
    byte8 (x0 + 256 * x1 + 65536 * x2 + 16777216 * x3 + 4294967296 * x4 + 1099511627776 * x5 + 281474976710656 * x6 + 72057594037927936 * x7) 4 = x4 ∧
    byte8 (x0 + 256 * x1 + 65536 * x2 + 16777216 * x3 + 4294967296 * x4 + 1099511627776 * x5 + 281474976710656 * x6 + 72057594037927936 * x7) 5 = x5 ∧
    byte8 (x0 + 256 * x1 + 65536 * x2 + 16777216 * x3 + 4294967296 * x4 + 1099511627776 * x5 + 281474976710656 * x6 + 72057594037927936 * x7) 6 = x6 ∧
    byte8 (x0 + 256 * x1 + 65536 * x2 + 16777216 * x3 + 4294967296 * x4 + 1099511627776 * x5 + 281474976710656 * x6 + 72057594037927936 * x7) 7 = x7 := by
  unfold byte8
  rw [show (2 : Int) ^ (8 * 0) = 1 from by decide, show (2 : Int) ^ (8 * 1) = 256 from by decide, show (2 : Int) ^ (8 * 2) = 65536 from by decide, show (2 : Int) ^ (8 * 3) = 16777216 from by decide, show (2 : Int) ^ (8 * 4) = 4294967296 from by decide, show (2 : Int) ^ (8 * 5) = 1099511627776 from by decide, show (2 : Int) ^ (8 * 6) = 281474976710656 from by decide, show (2 : Int) ^ (8 * 7) = 72057594037927936 from by decide]
  refine ⟨?_, ?_, ?_, ?_, ?_, ?_, ?_, ?_⟩ <;> omega
/-- the eight bytes again -/
theorem le8_leN {p : List Int} (h : By p) (h8 : 8 ≤ p.length) : le8 (leN p) ++ p.drop 8 = p := by
  have key : ∀ i, i < 8 → byte8 (leN p) i = p.getD i 0 := by
    have e1 : leN p = p.getD 0 0 + 256 * p.getD 1 0 + 65536 * p.getD 2 0 + 16777216 * p.getD 3 0 + 4294967296 * p.getD 4 0 + 1099511627776 * p.getD 5 0 + 281474976710656 * p.getD 6 0 + 72057594037927936 * p.getD 7 0 := by
      unfold leN
      simp only [leP]
      omega
    have b0 := By.getD h 0
    have b1 := By.getD h 1
    have b2 := By.getD h 2
    have b3 := By.getD h 3
    have b4 := By.getD h 4
    have b5 := By.getD h 5
    have b6 := By.getD h 6
    have b7 := By.getD h 7
    have h8b := bytes8 b0 b1 b2 b3 b4 b5 b6 b7
    rw [← e1] at h8b
    intro i hi
    match i, hi with
    | 0, _ => exact h8b.1
    | 1, _ => exact h8b.2.1
    | 2, _ => exact h8b.2.2.1
    | 3, _ => exact h8b.2.2.2.1
    | 4, _ => exact h8b.2.2.2.2.1
    | 5, _ => exact h8b.2.2.2.2.2.1
    | 6, _ => exact h8b.2.2.2.2.2.2.1
    | 7, _ => exact h8b.2.2.2.2.2.2.2
  have e : le8 (leN p) = p.take 8 := by
    apply List.ext_getElem?
    intro i
    rcases Nat.lt_or_ge i 8 with hi | hi
    · have := key i hi
      have hip : i < p.length := by omega
      rw [List.getD_eq_getElem?_getD, List.getElem?_eq_getElem hip, Option.getD_some] at this
      rw [List.getElem?_take_of_lt hi, List.getElem?_eq_getElem hip]
      unfold le8
      rw [List.getElem?_map, List.getElem?_range hi, Option.map_some, this]
    · rw [List.getElem?_eq_none (by rw [le8_len]; exact hi), List.getElem?_eq_none (by rw [List.length_take]; omega)]
  rw [e, List.take_append_drop]

/-! ### frames are what they must be -/
theorem firstN_body {xs : List Int} (h : By xs) (h0 : firstN xs ≠ 0) : xs.take (firstN xs) = fenc ((xs.drop 8).take (firstN xs - 8)) ∧ ((xs.drop 8).take (firstN xs - 8)).length = firstN xs - 8 ∧ firstN xs - 8 ≤ 1048576 := by
  have hg := firstN_ge xs h0
  have hl := firstN_le xs
  have h0' := h0
  unfold firstN at h0'
  by_cases h8 : xs.length < 8
  · rw [if_pos h8] at h0'; exact absurd rfl h0'
  · rw [if_neg h8] at h0'
    by_cases hc : 1048576 < (w4 xs).toNat ∨ xs.length - 8 < (w4 xs).toNat ∨ parts 0 [xs.take 4, (xs.drop 8).take (w4 xs).toNat] ≠ w4 (xs.drop 4)
    · rw [if_pos hc] at h0'; exact absurd rfl h0'
    · have hN : firstN xs = 8 + (w4 xs).toNat := by unfold firstN; rw [if_neg h8, if_neg hc]
      have h1 : ¬ 1048576 < (w4 xs).toNat := fun e => hc (.inl e)
      have h2 : ¬ xs.length - 8 < (w4 xs).toNat := fun e => hc (.inr (.inl e))
      have h3 : parts 0 [xs.take 4, (xs.drop 8).take (w4 xs).toNat] = w4 (xs.drop 4) := Classical.byContradiction fun e => hc (.inr (.inr e))
      have hw := w4_range h
      have hpl : ((xs.drop 8).take (w4 xs).toNat).length = (w4 xs).toNat := by rw [List.length_take, List.length_drop]; omega
      have hw0 : (0 : Int) ≤ w4 xs := hw.1
      rw [hN, show 8 + (w4 xs).toNat - 8 = (w4 xs).toNat from by omega]
      refine ⟨?_, hpl, by omega⟩
      have e1 := (first_iff (pl := (xs.drop 8).take (w4 xs).toNat) h (by omega) (by rw [hpl]; omega)).2 h3
      have e2 : (fenc ((xs.drop 8).take (w4 xs).toNat)).drop 8 = (xs.drop 8).take (w4 xs).toNat := rfl
      rw [← List.take_append_drop 8 (fenc ((xs.drop 8).take (w4 xs).toNat)), e1, e2, List.take_add]
theorem fencs_P : ∀ (n : Nat) (xs : List Int), xs.length ≤ n → By xs → fencs (P xs) = xs.take (E xs) ∧ ∀ p ∈ P xs, p.length ≤ 1048576 ∧ By p := by
  intro n
  induction n with
  | zero =>
    intro xs hn hb
    have : xs = [] := List.eq_nil_of_length_eq_zero (by omega)
    subst this
    obtain ⟨h1, h2⟩ := P_stop (xs := []) firstN_nil
    rw [h1, h2]
    exact ⟨rfl, by simp⟩
  | succ n ih =>
    intro xs hn hb
    by_cases h0 : firstN xs = 0
    · obtain ⟨h1, h2⟩ := P_stop h0
      rw [h1, h2]
      exact ⟨rfl, by simp⟩
    · obtain ⟨h1, h2⟩ := P_next h0
      obtain ⟨b1, b2, b3⟩ := firstN_body hb h0
      have hge := firstN_ge xs h0
      have hle := firstN_le xs
      obtain ⟨i1, i2⟩ := ih (xs.drop (firstN xs)) (by rw [List.length_drop]; omega) (hb.drop _)
      rw [h1, h2]
      refine ⟨?_, fun p hp => ?_⟩
      · show fenc _ ++ fencs (P (xs.drop (firstN xs))) = _
        rw [i1, ← b1, List.take_add]
      · rcases List.mem_cons.1 hp with rfl | hp
        · exact ⟨by rw [b2]; exact b3, (hb.drop 8).take _⟩
        · exact i2 p hp
end Go.Proofs.YtfinaikgikifcaaDoor.vaultp
