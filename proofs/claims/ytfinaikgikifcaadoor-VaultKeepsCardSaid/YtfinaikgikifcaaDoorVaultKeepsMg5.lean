/- What vault.look computes; and what is proved besides: see the words ahead of each part. -/
import Derived.Sort.CutIn
import Derived.Test.YtfinaikgikifcaaDoorVaultKeepsMg4
set_option linter.unusedVariables false
set_option linter.unusedSimpArgs false
/- What vault.look computes. -/
namespace Go.Proofs.YtfinaikgikifcaaDoor.vaultl
open Go.RowKit Go.Shelf Go.Proofs.YtfinaikgikifcaaDoorW.PrintWords Go.Proofs.YtfinaikgikifcaaDoor.base Go.Proofs.YtfinaikgikifcaaDoor.mem Go.Proofs.YtfinaikgikifcaaDoor.keep Go.Proofs.YtfinaikgikifcaaDoor.crcp Go.Proofs.YtfinaikgikifcaaDoor.crcw Go.Proofs.YtfinaikgikifcaaDoor.samew Go.Proofs.YtfinaikgikifcaaDoor.framep Go.Proofs.YtfinaikgikifcaaDoor.framew Go.Proofs.YtfinaikgikifcaaDoor.frameit Go.Proofs.YtfinaikgikifcaaDoor.framem Go.Proofs.YtfinaikgikifcaaDoor.framel Go.Proofs.YtfinaikgikifcaaDoor.framea Go.Proofs.YtfinaikgikifcaaDoor.framer Go.Proofs.YtfinaikgikifcaaDoor.framen Go.Proofs.YtfinaikgikifcaaDoor.framek Go.Proofs.YtfinaikgikifcaaDoor.diskp Go.Proofs.YtfinaikgikifcaaDoor.diskr Go.Proofs.YtfinaikgikifcaaDoor.diskw Go.Proofs.YtfinaikgikifcaaDoor.vaultp Go.Proofs.YtfinaikgikifcaaDoor.vaultw Go.Proofs.YtfinaikgikifcaaDoor.over
attribute [local go_sem] Oper.semAt_some

/-- a slice cut out of one of the call's own -/
def Snap (W : World) (base : Nat) (A : Option Addr) (n c : Nat) (xs : List Int) : Prop :=
  ∃ (k : Nat) (A0 : Option Addr) (n0 c0 : Nat) (ys : List Int), OwB W base A0 n0 c0 ys ∧ (∀ (W' : World) (zs : List Int), RdB W' A0 n0 zs → RdB W' A n (zs.drop k)) ∧ xs = ys.drop k ∧ n ≤ c
section
variable {W W' : World} {base n c : Nat} {A : Option Addr} {xs : List Int}
theorem Snap.map (h : Snap W base A n c xs) (hw : ∀ a m c ys, OwB W base a m c ys → OwB W' base a m c ys) : Snap W' base A n c xs := by
  obtain ⟨k, A0, n0, c0, ys, h1, h2⟩ := h
  exact ⟨k, A0, n0, c0, ys, hw _ _ _ _ h1, h2⟩
theorem Snap.below (h : Snap W base A n c xs) (hb : Below W.heap.size W W') : Snap W' base A n c xs := h.map fun _ _ _ _ ho => ho.below hb
theorem Snap.less {b : Nat} (h : Snap W base A n c xs) (hb : b ≤ base) : Snap W b A n c xs := by
  obtain ⟨k, A0, n0, c0, ys, h1, h2⟩ := h
  exact ⟨k, A0, n0, c0, ys, h1.less hb, h2⟩
theorem Snap.rd (h : Snap W base A n c xs) : RdB W A n xs := by
  obtain ⟨k, A0, n0, c0, ys, h1, h2, rfl, _⟩ := h
  exact h2 W ys h1.rd
theorem Snap.cap (h : Snap W base A n c xs) : n ≤ c := by
  obtain ⟨k, A0, n0, c0, ys, h1, h2, _, h3⟩ := h
  exact h3
theorem Snap.own (h : OwB W base A n c xs) : Snap W base A n c xs := ⟨0, A, n, c, xs, h, fun _ _ h => h, rfl, h.cap⟩
end
/-- what was read of a file, in its box -/
def KS (W : World) (lo lo2 kb : Nat) (x : Int × List Int × List (List Int)) (size en : Int) : Prop :=
  ∃ A n c B m c2 cells, W.heap[kb]? = some (.cells #[.int .i64 x.1, .slice A n c, .slice B m c2, .int .i64 size, .int .i64 en] 66 (0, 0)) ∧ Snap W lo A n c x.2.1 ∧ OwV W lo2 B m c2 cells ∧ Rws W lo cells x.2.2
def RetK (w : World) (xs : List Int) (e : Ending) (w' : World) : Prop :=
  ∃ A n c B m c2 cells, e = .returned (.tuple #[keptV (lookF xs).1 A n c B m c2 (xs.length : Nat) (E xs : Nat), .int .i64 0]) ∧ Snap w' w.heap.size A n c (lookF xs).2.1 ∧ OwV w' w.heap.size B m c2 cells ∧ Rws w' w.heap.size cells (lookF xs).2.2 ∧ Below w.heap.size w w'
section
variable {W W' : World} {lo lo2 kb : Nat} {x : Int × List Int × List (List Int)} {size en : Int}
theorem KS.kept (h : KS W lo lo2 kb x size en) {row : Option Nat} (hg : W.grownBy W' row) (hr : ∀ r, row = some r → ∃ o : Obj, W.heap[r]? = some o ∧ o.isCells = false) : KS W' lo lo2 kb x size en := by
  obtain ⟨A, n, c, B, m, c2, cells, h1, h2, h3, h4⟩ := h
  refine ⟨A, n, c, B, m, c2, cells, ?_, h2.map fun a m c ys h => OwB.kept h hg hr, OwV.kept h3 hg hr, h4.map fun a m c ys h => OwB.kept h hg hr⟩
  rw [hg.block kb (Array.getElem?_eq_some_iff.1 h1).1 (fun e => ?_)]
  · exact h1
  · obtain ⟨o, ho, hc⟩ := hr _ e.symm
    rw [h1] at ho
    injection ho with ho
    subst ho
    cases hc
theorem KS.ck (h : KS W lo lo2 kb x size en) (hk : CK W W') : KS W' lo lo2 kb x size en := by
  obtain ⟨A, n, c, B, m, c2, cells, h1, h2, h3, h4⟩ := h
  exact ⟨A, n, c, B, m, c2, cells, hk.2 _ _ h1 rfl, h2.map fun a m c ys h => OwB.ck h hk, OwV.ck h3 hk, h4.map fun a m c ys h => OwB.ck h hk⟩
end
theorem box_cells {W : World} {kb : Nat} {v0 v1 v2 v3 v4 : Value} {t : TypeId} (h : W.heap[kb]? = some (.cells #[v0, v1, v2, v3, v4] t (0, 0))) :
    (W.cell? ⟨kb, 0, none⟩ = some v0 ∧ W.cell? ⟨kb, 1, none⟩ = some v1 ∧ W.cell? ⟨kb, 2, none⟩ = some v2 ∧ W.cell? ⟨kb, 3, none⟩ = some v3 ∧ W.cell? ⟨kb, 4, none⟩ = some v4) ∧ ∀ i, W.frozen? ⟨kb, i, none⟩ = false := by
  refine ⟨?_, fun i => ?_⟩
  · unfold World.cell?
    simp [h]
  · unfold World.frozen?
    simp [h]
def RB (b : Nat) (W : World) : Prop := W.heap[b]? = some (.cells #[.int .i64 0, .slice none 0 0, .slice none 0 0, .int .i64 0, .int .i64 0] 66 (0, 0))
theorem RB.kept {b : Nat} {W W' : World} {row : Option Nat} (h1 : RB b W) (hg : W.grownBy W' row) (hr : ∀ r, row = some r → ∃ o : Obj, W.heap[r]? = some o ∧ o.isCells = false) : RB b W' := by
  have h2 : W.heap[b]? = _ := h1
  show W'.heap[b]? = _
  rw [hg.block _ (Array.getElem?_eq_some_iff.1 h2).1 (fun e => ?_)]
  · exact h2
  · obtain ⟨o, ho, hc⟩ := hr _ e.symm
    rw [h2] at ho
    injection ho with ho
    subst ho
    cases hc
def LI (xs : List Int) (w : World) (lo2 kb : Nat) (size en : Int) (pre : List It) (W : World) : Prop :=
  ((∀ x0 r, pre = x0 :: r → goodP (pay xs x0)) ∧ KS W w.heap.size lo2 kb (lookP (pre.map (pay xs))) size en) ∧ (lo2 ≤ W.heap.size ∧ Below w.heap.size w W) ∧ RB w.heap.size W
def LX (xs : List Int) (w : World) (lo2 kb : Nat) (size en : Int) (cc : Code) (pre : List It) (W : World) : Prop :=
  ((cc = .exit 0 ∧ ∃ x, pre = [x] ∧ ¬ goodP (pay xs x)) ∧ KS W w.heap.size lo2 kb (0, [], []) size en) ∧ (lo2 ≤ W.heap.size ∧ Below w.heap.size w W) ∧ RB w.heap.size W
theorem OwB.blockK {w w' : World} {kb base n c : Nat} {A : Option Addr} {ys : List Int} {cs : Array Value} (h : OwB w base A n c ys) (hb : ∀ g, g ≠ kb → w'.heap[g]? = w.heap[g]?) (hk : w.heap[kb]? = some (.cells cs 66 (0, 0))) : OwB w' base A n c ys := by
  refine ⟨⟨h.1.1, ?_⟩, h.2⟩
  rcases h.1.2 with hv | ⟨g, cap, cur, hv, h1, h2, h3⟩
  · exact .inl hv
  · refine .inr ⟨g, cap, cur, hv, h1, ?_, h3⟩
    rw [hb g (fun e => ?_)]
    · exact h2
    · subst e
      rw [hk] at h2
      injection h2 with h2
      injection h2 with _ h2 _
      revert h2
      decide
theorem OwV.blockK {w w' : World} {kb base n c : Nat} {A : Option Addr} {cells : List Value} {cs : Array Value} (h : OwV w base A n c cells) (hb : ∀ g, g ≠ kb → w'.heap[g]? = w.heap[g]?) (hk : w.heap[kb]? = some (.cells cs 66 (0, 0))) : OwV w' base A n c cells := by
  refine ⟨h.1, ?_⟩
  rcases h.2 with hv | ⟨g, cap, cur, hv, h1, h2, h3⟩
  · exact .inl hv
  · refine .inr ⟨g, cap, cur, hv, h1, ?_, h3⟩
    rw [hb g (fun e => ?_)]
    · exact h2
    · subst e
      rw [hk] at h2
      injection h2 with h2
      injection h2 with _ h2 _
      revert h2
      decide
theorem endOf_pos {x0 : It} {r : List It} : 8 ≤ endOf (x0 :: r) := by
  unfold endOf
  unfold endL
  rw [List.map_cons]
  cases hl : ((x0.key) :: r.map It.key).getLast? with
  | none => simp at hl
  | some y => simp; omega
theorem endOf_nil : endOf [] = 0 := rfl
theorem app_keeps {W w1 : World} {base m c : Nat} {B : Option Addr} {cells : List Value} {tmp : Obj} (hrow : OwV W base B m c cells) (hgrow : (W.alloc tmp).grownBy w1 (Value.slice B m c).ownBlock) (q : Addr) (v : Value) : KeepsOthers W (w1.setCell q v) := by
  refine ((KeepsOthers.alloc W tmp).trans (KeepsOthers.of_grownBy hgrow fun j o ej hj => ?_)).trans (KeepsOthers.setCell _ _ _)
  rcases (own_alloc hrow tmp).2 with ⟨hv, _⟩ | ⟨g, cap, cur, hv, _, hgb, _⟩
  · rw [hv] at ej; simp [Value.ownBlock] at ej
  · rw [hv] at ej
    obtain rfl : g = j := by simpa [Value.ownBlock] using ej
    rw [hgb] at hj; cases hj; rfl
theorem box_row {W : World} {kb : Nat} {cs : Array Value} (h : W.heap[kb]? = some (.cells cs 66 (0, 0))) : ∀ r, some kb = some r → ∀ cur, W.heap[r]? ≠ some (.cells cur 5 (0, 0)) := by
  rintro r ⟨⟩ cur he
  rw [h] at he
  injection he with he
  injection he with _ he _
  revert he
  decide
theorem box_notV {W : World} {kb base m c : Nat} {B : Option Addr} {cells : List Value} {cs : Array Value} (h : W.heap[kb]? = some (.cells cs 66 (0, 0))) (hv : OwV W base B m c cells) : (Value.slice B m c).ownBlock ≠ some kb := by
  intro e
  rcases hv.2 with ⟨hv2, _⟩ | ⟨g, cap, cur, hv2, _, hgb, _⟩
  · rw [hv2] at e; cases e
  · rw [hv2] at e
    obtain rfl : g = kb := by simpa [Value.ownBlock] using e
    rw [h] at hgb
    injection hgb with hgb
    injection hgb with _ e2 _
    revert e2
    decide
theorem box_put {W : World} {kb : Nat} {cs : Array Value} {t : TypeId} (h : W.heap[kb]? = some (.cells cs t (0, 0))) (i : Nat) (v : Value) : (W.setCell ⟨kb, i, none⟩ v).heap[kb]? = some (.cells (cs.setIfInBounds i v) t (0, 0)) := by
  obtain ⟨hlt, hk⟩ := Array.getElem?_eq_some_iff.1 h
  show (W.heap.modify kb _)[kb]? = _
  rw [Array.getElem?_eq_getElem (by rw [Array.size_modify]; exact hlt), Array.getElem_modify_self, hk]
  rfl
set_option maxHeartbeats 4000000 in
set_option maxRecDepth 100000 in
theorem look_any {w : World} {base p : Nat} {cs : Nat → Sl} {d : D} (h : DAt w base p cs d) (hs : Small d.b) (f : Nat) (hf : f < 2) (hoff : d.off = false) (hn : (P (fileB d f)).length ≤ 5864062014804) (ht : Table w) :
    Calls Tryd.prog 33 #[.pointer (some ⟨p, 0, none⟩), .int .i64 f] w (RetK w (fileB d f)) := by
  have HR := Lib.hid (fun W (hb : Below w.heap.size w W) => read_any (h.below hb) hs (f : Int))
  have HRE : Hid (readR d (f : Int) = (fileB d f, 0)) := Lib.hid (by
    unfold readR rdy
    rw [hoff, if_neg (show ¬ ((f : Int) < 0 ∨ 1 < (f : Int)) by omega)]
    rfl)
  have hfl : (fileB d f).length ≤ 140737488355328 := by
    unfold fileB
    rw [List.length_append]
    have h0 := hs (2 * f) (by omega)
    have h1 := hs (2 * f + 1) (by omega)
    omega
  rw [HRE.out] at HR
  have HT := Lib.hid ht
  have hg := Table.lt ht
  clear h hs hoff HRE ht
  generalize fileB d f = xs at HR hfl hn ⊢
  have HLK : Hid (lookF xs = lookP (P xs)) := Lib.hid rfl
  have HPP := Lib.hid (pays_P xs)
  have hfn : (flist xs).length ≤ 5864062014804 := by rw [← pays_len, HPP.out]; exact hn
  have B1 := Lib.hid (below_alloc (Below.refl w.heap.size w) (.cells #[.int .i64 0, .slice none 0 0, .slice none 0 0, .int .i64 0, .int .i64 0] 66))
  have hs1 := B1.out.size
  have hz1 : (w.alloc (.cells #[.int .i64 0, .slice none 0 0, .slice none 0 0, .int .i64 0, .int .i64 0] 66)).heap.size = w.heap.size + 1 := by simp
  have hb1 : (w.alloc (.cells #[.int .i64 0, .slice none 0 0, .slice none 0 0, .int .i64 0, .int .i64 0] 66)).heap[w.heap.size]? = some (.cells #[.int .i64 0, .slice none 0 0, .slice none 0 0, .int .i64 0, .int .i64 0] 66 (0, 0)) := World.alloc_heap_new w _
  obtain ⟨i0, hi, hzz⟩ := Option.map_eq_some_iff.1 infoS
  simp only [Prod.mk.injEq] at hzz
  obtain ⟨hz0, hz1', hz2⟩ := hzz
  refine (callsIn_wide (n := 6)).1 ?_
  refine callsIn_of_wp_marks Tryd.func33 rfl trivial ?_ rfl
  simp only [Tryd.ntmps33, List.size_toArray, List.length_cons, List.length_nil, Nat.reduceAdd, Nat.reduceSub, Array.replicate_succ, Array.replicate_zero, List.push_toArray, List.append_toArray, List.nil_append, List.cons_append]
  refine wpIn_wide.2 ?_
  go_wp2_with fail
  refine (HR.out _ B1.out).mono ?_
  rintro e w2 ⟨A2, n2, c2, rfl, ho, hb⟩
  have hl2 := ho.len
  have hb2 : w2.heap[w.heap.size]? = some (.cells #[.int .i64 0, .slice none 0 0, .slice none 0 0, .int .i64 0, .int .i64 0] 66 (0, 0)) := (hb.block w.heap.size (by rw [hz1]; omega)).trans hb1
  have B2 := Lib.hid (B1.out.trans (hb.mono hs1))
  have hs2 : w.heap.size + 1 ≤ w2.heap.size := by rw [← hz1]; exact hb.size
  have HO2 := Lib.hid ho
  clear ho hb hb1 hz1 hs1
  go_wp2_with fail
  refine (end_any A2 n2 c2 xs w2 HO2.out.rd (by omega) (HT.out.below B2.out)).mono ?_
  rintro e w3 ⟨rfl, hb⟩
  have HEE := Lib.hid (end_E xs)
  rw [end_E]
  have hEl := E_le xs
  have hb3 := (hb.block w.heap.size (by omega)).trans hb2
  have B3 := Lib.hid (B2.out.trans (hb.mono (by omega)))
  have hs3 := hb.size
  have HO3 := Lib.hid (HO2.out.below hb)
  generalize hen : E xs = en at hEl
  have HEN := Lib.hid hen
  clear hb hb2 HO2 hen
  have hb4 : (w3.alloc (.cells #[.int .i64 0, .slice none 0 0, .slice none 0 0, .int .i64 (n2 : Nat), .int .i64 (en : Nat)] 66)).heap[w3.heap.size]? = some (.cells #[.int .i64 0, .slice none 0 0, .slice none 0 0, .int .i64 (n2 : Nat), .int .i64 (en : Nat)] 66 (0, 0)) := World.alloc_heap_new w3 _
  have B4 := Lib.hid (below_alloc (Below.refl w3.heap.size w3) (.cells #[.int .i64 0, .slice none 0 0, .slice none 0 0, .int .i64 (n2 : Nat), .int .i64 (en : Nat)] 66))
  have hz4 : (w3.alloc (.cells #[.int .i64 0, .slice none 0 0, .slice none 0 0, .int .i64 (n2 : Nat), .int .i64 (en : Nat)] 66)).heap.size = w3.heap.size + 1 := by simp
  go_wp2_with fail
  refine (frames_any A2 n2 c2 xs _ (HO3.out.rd.below B4.out) (by omega)).mono ?_
  rintro e w5 ⟨Bs, rfl, hN, hb⟩
  rw [hz4] at hN
  have hk5 := (hb.block w3.heap.size (by rw [hz4]; omega)).trans hb4
  have hr5 : RB w.heap.size w5 := (hb.block w.heap.size (by rw [hz4]; omega)).trans ((Below.heap_alloc w3 _ w.heap.size (by omega)).trans hb3)
  have B5 := Lib.hid (B3.out.trans ((B4.out.trans (hb.mono B4.out.size)).mono (by omega)))
  have hs5 : w3.heap.size + 1 ≤ w5.heap.size := by rw [← hz4]; exact hb.size
  have HN5 := Lib.hid hN
  have HT5 := Lib.hid (HT.out.below B5.out)
  have HK5 : Hid (KS w5 w.heap.size w5.heap.size w3.heap.size (0, [], []) (n2 : Nat) (en : Nat)) := Lib.hid ⟨none, 0, 0, none, 0, 0, [], hk5, Snap.own (OwB.nil _ _), OwV.nil _ _, Rws.nil _ _⟩
  have HR5 := Lib.hid hr5
  clear hN hb hb4 hz4 B4 hb3 hk5 hr5
  generalize hkb : w3.heap.size = kb at HK5 HN5 hs5 ⊢
  have hkw : w.heap.size + 1 ≤ kb := by omega
  clear hkb
  go_wp2
  refine (wpIn_wide (n := 6)).1 ?_
  refine' overF rfl HN5.out (Nat.le_refl _) HT5.out rfl
    (LI xs w w5.heap.size kb (n2 : Nat) (en : Nat))
    (LX xs w w5.heap.size kb (n2 : Nat) (en : Nat))
    (fun z W W' row hs hg hr => ⟨⟨hs.1.1, hs.1.2.kept hg fun r e => (hr r e).2⟩, ⟨Nat.le_trans hs.2.1.1 hg.size, hs.2.1.2.grown hg hs.2.1.2.size (fun j e => Nat.le_trans (by omega) (hr j e).1)⟩, hs.2.2.kept hg fun r e => (hr r e).2⟩)
    (fun cc z W W' row hs hg hr => ⟨⟨hs.1.1, hs.1.2.kept hg fun r e => (hr r e).2⟩, ⟨Nat.le_trans hs.2.1.1 hg.size, hs.2.1.2.grown hg hs.2.1.2.size (fun j e => Nat.le_trans (by omega) (hr j e).1)⟩, hs.2.2.kept hg fun r e => (hr r e).2⟩)
    ⟨⟨(fun _ _ h => by cases h), HK5.out⟩, ⟨Nat.le_refl _, B5.out⟩, HR5.out⟩
    (fun W => KS W w.heap.size w5.heap.size kb (lookF xs) (n2 : Nat) (en : Nat) ∧ (w5.heap.size ≤ W.heap.size ∧ Below w.heap.size w W) ∧ RB w.heap.size W) 0 _ ?caseA ?caseB ?caseS ?caseP ?caseF
  case caseA =>
    intro l x W K hK
    gi_wp2
    exact hK
  case caseS =>
    intro ys W hys h
    obtain ⟨⟨_, h1⟩, h2⟩ := h
    rw [pays_of hys, HPP.out] at h1
    rw [HLK.out]
    exact ⟨h1, h2⟩
  case caseP =>
    rintro cc pre W hp h
    obtain ⟨⟨⟨rfl, x, rfl, hx⟩, h1⟩, h2⟩ := h
    have h0 : lookF xs = (0, [], []) := by
      rw [HLK.out, ← HPP.out]
      obtain ⟨t, ht⟩ := hp
      unfold pays
      rw [← ht]
      exact lookP_bad _ hx
    rw [h0]
    exact ⟨rfl, ⟨h1, h2⟩, fun a w h => h⟩
  case caseB =>
    intro l pre x Wa W h0 h1 hle hck hV
    obtain ⟨⟨hg0, hk0⟩, _, _⟩ := h0
    obtain ⟨_, ⟨hzW, hBW⟩, hrW⟩ := h1
    have hlt := V.lt hV
    have hVo := hV.2
    have hpl := V.place hV
    have hk := hk0.ck hck
    have HRW := Lib.hid hrW
    cases pre with
    | nil =>
      have hp0 : x.p = 0 := by rw [hpl]; rfl
      rw [List.map_nil] at hk0
      obtain ⟨A, n, c, B, m, c3, cells, hb0, hsn0, hv0, hr0⟩ := hk0
      have hb := hck.2 _ _ hb0 rfl
      have HSN := Lib.hid (hsn0.map fun a m c ys h => OwB.ck h hck)
      have HVV := Lib.hid (OwV.ck hv0 hck)
      have HRR := Lib.hid (hr0.map fun a m c ys h => OwB.ck h hck)
      have HVO := Lib.hid hVo
      have hxl := hVo.len
      have hxc := hVo.cap
      have HBX := Lib.hid hb
      have HBW := Lib.hid hBW
      have hle5 : w5.heap.size ≤ Wa.heap.size := hle
      obtain ⟨⟨c0, c1, _⟩, hfr⟩ := box_cells hb
      have fr0 := hfr 0
      have fr1 := hfr 1
      clear hk hg0 hb0 hsn0 hv0 hr0 hb hck hV hVo hrW hBW hpl hfr hlt
      have HXX : Hid (LX xs w w5.heap.size kb (n2 : Nat) (en : Nat) (.exit 0) [x] W ∨ goodP (pay xs x)) := Lib.hid (by
        by_cases hx : goodP (pay xs x)
        · exact .inr hx
        · exact .inl ⟨⟨⟨rfl, x, rfl, hx⟩, A, n, c, B, m, c3, cells, HBX.out, HSN.out, HVV.out, HRR.out⟩, ⟨hzW, HBW.out⟩, HRW.out⟩)
      by_cases h8 : x.n < 8
      · have HX : Hid (LX xs w w5.heap.size kb (n2 : Nat) (en : Nat) (.exit 0) [x] W) := Lib.hid (by
          rcases HXX.out with h | h
          · exact h
          · have := h.1; omega)
        obtain ⟨p', A5, n5, c5, hp5, hn5⟩ := x
        dsimp only at hp0 h8 HX
        subst hp0
        gi_wp2
        exact ⟨KeepsFrom.refl _ _, HX.out⟩
      · obtain ⟨g5, hA5, _, _⟩ := HVO.out.form (by omega)
        have HYB := Lib.hid (leP_range HVO.out.2)
        have hcell : ∀ i, i < x.n → W.cell? ⟨g5, i, none⟩ = some (.int .u8 ((pay xs x).getD i 0)) := fun i hi => by
          have := HVO.out
          rw [hA5] at this
          exact (this.at_ i hi).1
        have HCELL := Lib.hid hcell
        have HBY := Lib.hid (fun i => By.getD HVO.out.2 i)
        obtain ⟨A7, n7, c7, hcut, hm1, hm2, hm3, hrd⟩ := cutL x.A x.n x.c 8 (by omega) hxc
        have hcut : ∀ W : World, (Instr.slice 22 (.slice x.A x.n x.c) (some (.int .i64 8)) none none).run Tryd.prog W = .ok (.slice A7 n7 c7) W := hcut
        have HE : Hid (goodP (pay xs x) → ∀ W', W' = ((W.setCell ⟨kb, 0, none⟩ (.int .i64 (leN (pay xs x)))).setCell ⟨kb, 1, none⟩ (.slice A7 n7 c7)).drew → ownPostG w5.heap.size (KT (kb + 1) w5.heap.size) (LI xs w w5.heap.size kb (n2 : Nat) (en : Nat)) (LX xs w w5.heap.size kb (n2 : Nat) (en : Nat)) ([] ++ [x]) W .normal { tmps := #[], defers := [] } W') := Lib.hid (by
          rintro hx W' rfl
          have hb1 := box_put HBX.out 0 (.int .i64 (leN (pay xs x)))
          have hb2 := box_put hb1 1 (.slice A7 n7 c7)
          have hB : Below w.heap.size W ((W.setCell ⟨kb, 0, none⟩ (.int .i64 (leN (pay xs x)))).setCell ⟨kb, 1, none⟩ (.slice A7 n7 c7)).drew := Below.drew <| ((Below.refl w.heap.size W).setCell (p := ⟨kb, 0, none⟩) (show w.heap.size ≤ kb by omega) _).setCell (p := ⟨kb, 1, none⟩) (show w.heap.size ≤ kb by omega) _
          have hblk : ∀ i, i ≠ kb → ((W.setCell ⟨kb, 0, none⟩ (.int .i64 (leN (pay xs x)))).setCell ⟨kb, 1, none⟩ (.slice A7 n7 c7)).heap[i]? = W.heap[i]? := fun i hi => by rw [Below.heap_setCell _ _ _ _ hi, Below.heap_setCell _ _ _ _ hi]
          have hstep : ∀ a m c ys b, OwB W b a m c ys → OwB ((W.setCell ⟨kb, 0, none⟩ (.int .i64 (leN (pay xs x)))).setCell ⟨kb, 1, none⟩ (.slice A7 n7 c7)) b a m c ys := fun a m c ys b h =>
            OwB.keptT (OwB.keptT h (grownBy_set _ kb 0 _) (box_row HBX.out)) (grownBy_set _ kb 1 _) (box_row hb1)
          have hov : OwV ((W.setCell ⟨kb, 0, none⟩ (.int .i64 (leN (pay xs x)))).setCell ⟨kb, 1, none⟩ (.slice A7 n7 c7)) w5.heap.size B m c3 cells :=
            World.ownsRow.kept (World.ownsRow.kept HVV.out (grownBy_set _ kb 0 _) (.inr (fun e => box_notV HBX.out HVV.out e))) (grownBy_set _ kb 1 _) (.inr (fun e => box_notV HBX.out HVV.out e))
          have hsz := Nat.le_trans hzW hB.size
          refine ⟨(((KeepsOthers.setCell W _ _).trans (KeepsOthers.setCell _ _ _)).trans (KeepsOthers.drew _)).from _, ?_, ⟨fun y s e => ?_, ?_⟩, ⟨hsz, HBW.out.trans hB⟩, ?_⟩
          · exact KT.of hB hg ⟨hsz, fun i a b => hblk i (by omega)⟩
          · injection e with e _
            subst e
            exact hx
          · show KS _ _ _ _ (lookP [pay xs x]) _ _
            rw [lookP_good _ hx]
            refine ⟨A7, n7, c7, B, m, c3, cells, hb2, ⟨8, x.A, x.n, x.c, pay xs x, ((hstep _ _ _ _ _ HVO.out).below (Below.refl _ _).drew).less (by omega), hrd, rfl, hm3⟩, OwV.below hov (Below.refl _ _).drew, ?_⟩
            exact HRR.out.map fun a m c ys h => (hstep a m c ys _ h).below (Below.refl _ _).drew
          · show ((W.setCell ⟨kb, 0, none⟩ (.int .i64 (leN (pay xs x)))).setCell ⟨kb, 1, none⟩ (.slice A7 n7 c7)).heap[w.heap.size]? = _
            rw [hblk _ (by omega)]
            exact HRW.out)
        have HXL := Lib.hid hxl
        obtain ⟨p', A5, n5, c5, hp5, hn5⟩ := x
        dsimp only at hp0 h8 HXX hA5 HYB HCELL HBY hcut hm1 hm2 HE HXL
        subst hp0
        subst hA5
        clear HSN HVV HRR HVO hcell hrd HBX hle5 hxl
        generalize hys : pay xs ⟨0, some ⟨g5, 0, none⟩, n5, c5, hp5, hn5⟩ = ys at HXX HYB HCELL HBY HE HXL
        clear hys
        generalize hx0 : ([] ++ [(⟨0, some ⟨g5, 0, none⟩, n5, c5, hp5, hn5⟩ : It)] : List It) = pre1 at HE
        have HX0 := Lib.hid hx0
        clear hx0
        gi_wp2
        gi_loopw [11, 43] (fun gv iv wr => ∃ k : Nat, k ≤ 8 ∧ iv = .int .i64 k ∧ gv = .int .u64 (leP ys k) ∧ W = wr) (fun _ iv _ => 8 - (intOf iv).toNat)
        case atStart => exact ⟨0, by omega, rfl, rfl, rfl⟩
        case round =>
          obtain ⟨k, hk, rfl, rfl, rfl⟩ := hrel
          by_cases hlt2 : k < 8
          · have hcl := HCELL.out k (by omega)
            have hkn : k < n5 := by omega
            obtain ⟨b0, b1⟩ := HBY.out k
            have HOR := Lib.hid (or_sh (leP ys k) (ys.getD k 0) k hlt2 (HYB.out k).1 (HYB.out k).2 b0 b1)
            have HNX : Hid (leP ys (k + 1) = leP ys k + 256 ^ k * ys.getD k 0) := Lib.hid rfl
            generalize ys.getD k 0 = b at hcl b0 b1 HOR HNX
            generalize leP ys k = v at HOR HNX
            gi_wp2
            exact ⟨⟨k + 1, by omega, by go_num, by rw [HNX.out, HOR.out], trivial⟩, by simp [intOf]; omega⟩
          · obtain rfl : k = 8 := by omega
            have h256 : (256 : Int) ^ 8 = 18446744073709551616 := by decide
            have hv := HYB.out 8
            rw [h256] at hv
            have HGD : Hid (goodP ys ↔ 1 ≤ leP ys 8 ∧ leP ys 8 ≤ 4611686018427387904) := Lib.hid ⟨fun h => h.2, fun h => ⟨by have := HXL.out; omega, h⟩⟩
            have HLN : Hid (leN ys = leP ys 8) := Lib.hid rfl
            rw [HLN.out] at HE
            clear HYB h256
            generalize leP ys 8 = v at HGD HE hv HLN
            by_cases hv1 : v < 1
            · have HX : Hid (LX xs w w5.heap.size kb (n2 : Nat) (en : Nat) (.exit 0) [⟨0, some ⟨g5, 0, none⟩, n5, c5, hp5, hn5⟩] W) := Lib.hid (by
                rcases HXX.out with h | h
                · exact h
                · have := (HGD.out.1 h).1; omega)
              have HX1 := HX
              rw [show [(⟨0, some ⟨g5, 0, none⟩, n5, c5, hp5, hn5⟩ : It)] = pre1 from HX0.out] at HX1
              gi_wp2
              exact ⟨KeepsFrom.refl _ _, HX1.out⟩
            · by_cases hv2 : 4611686018427387904 < v
              · have HX : Hid (LX xs w w5.heap.size kb (n2 : Nat) (en : Nat) (.exit 0) [⟨0, some ⟨g5, 0, none⟩, n5, c5, hp5, hn5⟩] W) := Lib.hid (by
                  rcases HXX.out with h | h
                  · exact h
                  · have := (HGD.out.1 h).2; omega)
                have HX1 := HX
                rw [show [(⟨0, some ⟨g5, 0, none⟩, n5, c5, hp5, hn5⟩ : It)] = pre1 from HX0.out] at HX1
                gi_wp2
                exact ⟨KeepsFrom.refl _ _, HX1.out⟩
              · have HWV : Hid (IntKind.i64.wrap v = v) := Lib.hid (by rw [IntKind.wrap_i64]; omega)
                have HG := Lib.hid (HE.out (HGD.out.2 ⟨by omega, by omega⟩))
                gi_wp2
                gi_region
                all_goals (refine HG.out _ ?_; rw [HWV.out])
    | cons x0 r =>
      have hgp := hg0 x0 r rfl
      have hp0 : 0 < x.p := by rw [hpl]; have := endOf_pos (x0 := x0) (r := r); omega
      rw [List.map_cons, lookP_good _ hgp] at hk hk0
      obtain ⟨A, n, c, B, m, c3, cells, hb0, hsn0, hv0, hr0⟩ := hk0
      have hb := hck.2 _ _ hb0 rfl
      have hsn := hsn0.map fun a m c ys h => OwB.ck h hck
      have hv := OwV.ck hv0 hck
      have hr := hr0.map fun a m c ys h => OwB.ck h hck
      have hcl := hv.len
      have hcl2 := hr.len
      rw [List.length_map] at hcl2
      rw [List.length_cons] at hlt
      have hmb : m ≤ 5864062014802 := by omega
      have HE : Hid (∀ (A6 : Option Addr) (n6 c6 : Nat) (w1 : World), OwV w1 w5.heap.size A6 n6 c6 (cells ++ [.slice x.A x.n x.c]) → (W.alloc (.cells #[.slice x.A x.n x.c] 22)).grownBy w1 (Value.slice B m c3).ownBlock →
          (w1.cell? ⟨kb, 2, none⟩ = some (.slice B m c3) ∧ w1.frozen? ⟨kb, 2, none⟩ = false) ∧ ownPostG w5.heap.size (KT (kb + 1) w5.heap.size) (LI xs w w5.heap.size kb (n2 : Nat) (en : Nat))
            (LX xs w w5.heap.size kb (n2 : Nat) (en : Nat)) (x0 :: r ++ [x]) W .normal { tmps := #[], defers := [] } (w1.setCell ⟨kb, 2, none⟩ (.slice A6 n6 c6))) := Lib.hid (by
        intro A6 n6 c6 w1 ho1 hg1
        have hnv := box_notV hb hv
        have hbv : ∀ j, (Value.slice B m c3).ownBlock = some j → w5.heap.size ≤ j := fun j hj => (OwV.blk hv j hj).1
        have hb1 : w1.heap[kb]? = _ := (hg1.block kb (by simp; omega) (fun e => hnv e.symm)).trans ((Below.heap_alloc W _ kb (by omega)).trans hb)
        have hr1 : w1.heap[w.heap.size]? = _ := (hg1.block w.heap.size (by simp; omega) (fun e => by have := hbv _ e.symm; omega)).trans ((Below.heap_alloc W _ w.heap.size (by omega)).trans HRW.out)
        have hB1 : Below w.heap.size W (w1.setCell ⟨kb, 2, none⟩ (.slice A6 n6 c6)) := (((Below.refl w.heap.size W).alloc (by omega) _).grown hg1 (by simp; omega) fun j ej => by have := hbv j ej; omega).setCell (p := ⟨kb, 2, none⟩) (show w.heap.size ≤ kb by omega) _
        have hstep : ∀ a m c ys b, OwB W b a m c ys → OwB (w1.setCell ⟨kb, 2, none⟩ (.slice A6 n6 c6)) b a m c ys := fun a m c ys b h =>
          OwB.keptT (OwB.keptT (h.alloc _) hg1 (OwV.row (own_alloc hv _))) (grownBy_set _ kb 2 _) (box_row hb1)
        have hov : OwV (w1.setCell ⟨kb, 2, none⟩ (.slice A6 n6 c6)) w5.heap.size A6 n6 c6 (cells ++ [.slice x.A x.n x.c]) := World.ownsRow.kept ho1 (grownBy_set w1 kb 2 _) (.inr (fun e => box_notV hb1 ho1 e))
        have hsz : w5.heap.size ≤ (w1.setCell ⟨kb, 2, none⟩ (.slice A6 n6 c6)).heap.size := Nat.le_trans hzW hB1.size
        refine ⟨⟨(box_cells hb1).1.2.2.1, (box_cells hb1).2 2⟩, (app_keeps hv hg1 _ _).from _, ?_, ⟨fun y s e => ?_, ?_⟩, ⟨hsz, hBW.trans hB1⟩, ?_⟩
        · refine KT.of hB1 hg ⟨hsz, fun i a b => ?_⟩
          rw [Below.heap_setCell _ _ _ i (by show i ≠ kb; omega), hg1.block i (by simp; omega) (fun e => by have := hbv _ e.symm; omega), Below.heap_alloc _ _ _ (by omega)]
        · injection e with e _
          subst e
          exact hgp
        · rw [List.map_append, List.map_cons, List.cons_append, lookP_good _ hgp]
          refine ⟨A, n, c, A6, n6, c6, _, box_put hb1 2 _, hsn.map fun a m c ys h => hstep _ _ _ _ _ h, hov, ?_⟩
          rw [List.map_singleton]
          exact hr0.snoc (hr.map fun a m c ys h => hstep a m c ys _ h) (Nat.le_refl _) (Nat.le_trans (by omega) hle) (hstep _ _ _ _ _ hVo)
        · show (w1.setCell ⟨kb, 2, none⟩ (.slice A6 n6 c6)).heap[w.heap.size]? = _
          rw [Below.heap_setCell _ _ _ _ (show w.heap.size ≠ kb by omega)]
          exact hr1)
      have hc := (box_cells hb).1.2.2.1
      have HV := Lib.hid hv
      clear hk hr0 hv0 hsn0 hb0 hsn hv hr hVo hV hck hb hgp hg0 hpl hrW hcl2 hlt
      obtain ⟨p', A5, n5, c5, hp5, hn5⟩ := x
      dsimp only at HE hp0
      gi_wp2_with (gi_at_builtin; refine wpListIn_append_own _ rfl _ _ 28 rfl w5.heap.size 22 i0 (.slice none 0 0) 1 24 Tryd.underlying28 hi hz0 hz1' hz2 rfl (by decide) _ _ _ rfl (own_alloc HV.out _) ⟨W.heap.size, 0, none⟩ 1 1 [.slice A5 n5 c5] rfl rfl (cell_one_new _ _ _) (by simp [Value.oneCell']) (by simp only [maxLen]; omega) (by omega) (by simp; omega) ?_; intro v' w1 hown' hgrow _; obtain ⟨g', cap', rfl⟩ := ownsRow_succ hown'; obtain ⟨⟨hc1, hf1⟩, HP⟩ := HE.out _ _ _ _ hown' hgrow)
      exact HP
  case caseF =>
    rintro D W hD ⟨⟨A, n, c, B, m, c3, cells, hb, hsn, hv, hr⟩, ⟨hzW, hBW⟩, hrW⟩ hK
    have hrb : W.heap[w.heap.size]? = _ := hrW
    obtain ⟨⟨e0, e1, e2, e3, e4⟩, _⟩ := box_cells hb
    obtain ⟨⟨r0, r1, r2, r3, r4⟩, hfr⟩ := box_cells hrb
    have f0 := hfr 0
    have f1 := hfr 1
    have f2 := hfr 2
    have f3 := hfr 3
    have f4 := hfr 4
    have HB := Lib.hid hb
    have HSN := Lib.hid hsn
    have HV := Lib.hid hv
    have HRR := Lib.hid hr
    have HBW := Lib.hid hBW
    have HRB := Lib.hid hrb
    clear hb hsn hv hr hBW hrW hrb hfr
    go_wp2
    clear e0 e1 e2 e3 e4 r0 r1 r2 r3 r4 f0 f1 f2 f3 f4
    have hX := box_put (box_put (box_put (box_put (box_put HRB.out 0 (.int .i64 (lookF xs).1)) 1 (.slice A n c)) 2 (.slice B m c3)) 3 (.int .i64 (n2 : Nat))) 4 (.int .i64 (en : Nat))
    have hX1 := box_put HRB.out 0 (.int .i64 (lookF xs).1)
    have hX2 := box_put hX1 1 (.slice A n c)
    have hX3 := box_put hX2 2 (.slice B m c3)
    have hX4 := box_put hX3 3 (.int .i64 (n2 : Nat))
    have hXB : Below w.heap.size W (((((W.setCell ⟨w.heap.size, 0, none⟩ (.int .i64 (lookF xs).1)).setCell ⟨w.heap.size, 1, none⟩ (.slice A n c)).setCell ⟨w.heap.size, 2, none⟩ (.slice B m c3)).setCell ⟨w.heap.size, 3, none⟩ (.int .i64 (n2 : Nat))).setCell ⟨w.heap.size, 4, none⟩ (.int .i64 (en : Nat))) :=
      (((((Below.refl w.heap.size W).setCell (p := ⟨w.heap.size, 0, none⟩) (Nat.le_refl _) _).setCell (p := ⟨w.heap.size, 1, none⟩) (Nat.le_refl _) _).setCell (p := ⟨w.heap.size, 2, none⟩) (Nat.le_refl _) _).setCell (p := ⟨w.heap.size, 3, none⟩) (Nat.le_refl _) _).setCell (p := ⟨w.heap.size, 4, none⟩) (Nat.le_refl _) _
    have hblk : ∀ i, i ≠ w.heap.size → (((((W.setCell ⟨w.heap.size, 0, none⟩ (.int .i64 (lookF xs).1)).setCell ⟨w.heap.size, 1, none⟩ (.slice A n c)).setCell ⟨w.heap.size, 2, none⟩ (.slice B m c3)).setCell ⟨w.heap.size, 3, none⟩ (.int .i64 (n2 : Nat))).setCell ⟨w.heap.size, 4, none⟩ (.int .i64 (en : Nat))).heap[i]? = W.heap[i]? := fun i hi => by
      rw [Below.heap_setCell _ _ _ _ hi, Below.heap_setCell _ _ _ _ hi, Below.heap_setCell _ _ _ _ hi, Below.heap_setCell _ _ _ _ hi, Below.heap_setCell _ _ _ _ hi]
    clear hX1 hX2 hX3 hX4
    generalize hXe : ((((W.setCell ⟨w.heap.size, 0, none⟩ (.int .i64 (lookF xs).1)).setCell ⟨w.heap.size, 1, none⟩ (.slice A n c)).setCell ⟨w.heap.size, 2, none⟩ (.slice B m c3)).setCell ⟨w.heap.size, 3, none⟩ (.int .i64 (n2 : Nat))).setCell ⟨w.heap.size, 4, none⟩ (.int .i64 (en : Nat)) = X at *
    clear hXe
    have hstep : ∀ a m c ys b, OwB W b a m c ys → OwB X b a m c ys := fun a m c ys b h => OwB.blockK h hblk HRB.out
    have hov : OwV X w.heap.size B m c3 cells := own_less (OwV.blockK HV.out hblk HRB.out) (by omega)
    have HXV := Lib.hid hov
    have HXS := Lib.hid (HSN.out.map fun a m c ys h => hstep a m c ys _ h)
    have HXR := Lib.hid (HRR.out.map fun a m c ys h => hstep a m c ys _ h)
    have HXK := Lib.hid (hblk D (by omega))
    clear hblk hstep hov
    have hK' := HXK.out.trans hK
    refine ⟨by simp, .inl ⟨_, _, rfl, run_takeDeferred hK', ?_⟩⟩
    have hXP : (X.putObj D (.deferred none)).heap[w.heap.size]? = some (.cells #[.int .i64 (lookF xs).1, .slice A n c, .slice B m c3, .int .i64 (n2 : Nat), .int .i64 (en : Nat)] 66 (0, 0)) := (World.putObj_heap_other (show w.heap.size ≠ D by omega)).trans hX
    obtain ⟨⟨x0, x1, x2, x3, x4⟩, _⟩ := box_cells hXP
    refine ⟨.tuple #[keptV (lookF xs).1 A n c B m c3 (n2 : Nat) (en : Nat), .int .i64 0], ?_, A, n, c, B, m, c3, cells, ?_, HXS.out.map (fun a m c ys h => ⟨ownsRow_putObj h.1 _ hK' rfl, h.2⟩), ownsRow_putObj HXV.out _ hK' rfl, HXR.out.map (fun a m c ys h => ⟨ownsRow_putObj h.1 _ hK' rfl, h.2⟩), (HBW.out.trans hXB).trans (belowK_b (w := w) (Nat.le_refl _) X D _ _ (by omega) hK' rfl rfl)⟩
    · unfold keptV
      simp [results, Tryd.f33, go_sem, x0, x1, x2, x3, x4]
    · rw [hl2, HEN.out]
end Go.Proofs.YtfinaikgikifcaaDoor.vaultl
/- vault.look of a disk whose power is off; what Open does: plain; the blocks of what is answered. -/
namespace Go.Proofs.YtfinaikgikifcaaDoor.vaultl
open Go.RowKit Go.Shelf Go.Proofs.YtfinaikgikifcaaDoorW.PrintWords Go.Proofs.YtfinaikgikifcaaDoor.base Go.Proofs.YtfinaikgikifcaaDoor.mem Go.Proofs.YtfinaikgikifcaaDoor.keep Go.Proofs.YtfinaikgikifcaaDoor.crcp Go.Proofs.YtfinaikgikifcaaDoor.crcw Go.Proofs.YtfinaikgikifcaaDoor.samew Go.Proofs.YtfinaikgikifcaaDoor.framep Go.Proofs.YtfinaikgikifcaaDoor.framew Go.Proofs.YtfinaikgikifcaaDoor.frameit Go.Proofs.YtfinaikgikifcaaDoor.framem Go.Proofs.YtfinaikgikifcaaDoor.framel Go.Proofs.YtfinaikgikifcaaDoor.framea Go.Proofs.YtfinaikgikifcaaDoor.framer Go.Proofs.YtfinaikgikifcaaDoor.framen Go.Proofs.YtfinaikgikifcaaDoor.framek Go.Proofs.YtfinaikgikifcaaDoor.diskp Go.Proofs.YtfinaikgikifcaaDoor.diskr Go.Proofs.YtfinaikgikifcaaDoor.diskw Go.Proofs.YtfinaikgikifcaaDoor.vaultp Go.Proofs.YtfinaikgikifcaaDoor.vaultw Go.Proofs.YtfinaikgikifcaaDoor.over
attribute [local go_sem] Oper.semAt_some


set_option maxRecDepth 100000 in
theorem look_down {w : World} {base p : Nat} {cs : Nat → Sl} {d : D} (h : DAt w base p cs d) (hs : Small d.b) (f : Nat) (hf : f < 2) (hoff : d.off = true) :
    Calls Tryd.prog 33 #[.pointer (some ⟨p, 0, none⟩), .int .i64 f] w fun e w' => e = .returned (.tuple #[keptV 0 none 0 0 none 0 0 0 0, .int .i64 40]) ∧ Below w.heap.size w w' := by
  have HR := Lib.hid (fun W (hb : Below w.heap.size w W) => read_any (h.below hb) hs (f : Int))
  have HRE : Hid (readR d (f : Int) = ([], 40)) := Lib.hid (by
    unfold readR rdy
    rw [hoff, if_neg (show ¬ ((f : Int) < 0 ∨ 1 < (f : Int)) by omega)]
    rfl)
  rw [HRE.out] at HR
  clear h hs hoff HRE
  have B1 := Lib.hid (below_alloc (Below.refl w.heap.size w) (.cells #[.int .i64 0, .slice none 0 0, .slice none 0 0, .int .i64 0, .int .i64 0] 66))
  have hs1 := B1.out.size
  have hz1 : (w.alloc (.cells #[.int .i64 0, .slice none 0 0, .slice none 0 0, .int .i64 0, .int .i64 0] 66)).heap.size = w.heap.size + 1 := by simp
  have hb1 : (w.alloc (.cells #[.int .i64 0, .slice none 0 0, .slice none 0 0, .int .i64 0, .int .i64 0] 66)).heap[w.heap.size]? = some (.cells #[.int .i64 0, .slice none 0 0, .slice none 0 0, .int .i64 0, .int .i64 0] 66 (0, 0)) := World.alloc_heap_new w _
  refine (callsIn_wide (n := 6)).1 ?_
  refine callsIn_of_wp_marks Tryd.func33 rfl trivial ?_ rfl
  simp only [Tryd.ntmps33, List.size_toArray, List.length_cons, List.length_nil, Nat.reduceAdd, Nat.reduceSub, Array.replicate_succ, Array.replicate_zero, List.push_toArray, List.append_toArray, List.nil_append, List.cons_append]
  refine wpIn_wide.2 ?_
  go_wp2_with fail
  refine (HR.out _ B1.out).mono ?_
  rintro e w2 ⟨A2, n2, c2, rfl, ho, hb⟩
  have hb2 : w2.heap[w.heap.size]? = some (.cells #[.int .i64 0, .slice none 0 0, .slice none 0 0, .int .i64 0, .int .i64 0] 66 (0, 0)) := (hb.block w.heap.size (by rw [hz1]; omega)).trans hb1
  have B2 := Lib.hid (B1.out.trans (hb.mono hs1))
  clear ho hb hb1 hz1 hs1
  have HB := Lib.hid hb2
  obtain ⟨⟨r0, r1, r2, r3, r4⟩, hfr⟩ := box_cells hb2
  have f0 := hfr 0
  have f1 := hfr 1
  have f2 := hfr 2
  have f3 := hfr 3
  have f4 := hfr 4
  clear hfr hb2
  go_wp2
  have hX := box_put (box_put (box_put (box_put (box_put HB.out 0 (.int .i64 0)) 1 (.slice none 0 0)) 2 (.slice none 0 0)) 3 (.int .i64 0)) 4 (.int .i64 0)
  obtain ⟨⟨x0, x1, x2, x3, x4⟩, _⟩ := box_cells hX
  refine ⟨.tuple #[keptV 0 none 0 0 none 0 0 0 0, .int .i64 40], ?_, rfl, ?_⟩
  · unfold keptV
    simp [results, Tryd.f33, go_sem, x0, x1, x2, x3, x4]
  · exact B2.out.trans ((((((Below.refl w.heap.size w2).setCell (p := ⟨w.heap.size, 0, none⟩) (Nat.le_refl _) _).setCell (p := ⟨w.heap.size, 1, none⟩) (Nat.le_refl _) _).setCell (p := ⟨w.heap.size, 2, none⟩) (Nat.le_refl _) _).setCell (p := ⟨w.heap.size, 3, none⟩) (Nat.le_refl _) _).setCell (p := ⟨w.heap.size, 4, none⟩) (Nat.le_refl _) _)
end Go.Proofs.YtfinaikgikifcaaDoor.vaultl
/- What Open makes of a disk: plain Lean. -/
namespace Go.Proofs.YtfinaikgikifcaaDoor.vaultp
open Go.RowKit Go.Shelf Go.Proofs.YtfinaikgikifcaaDoorW.PrintWords Go.Proofs.YtfinaikgikifcaaDoor.base Go.Proofs.YtfinaikgikifcaaDoor.mem Go.Proofs.YtfinaikgikifcaaDoor.samew Go.Proofs.YtfinaikgikifcaaDoor.framep Go.Proofs.YtfinaikgikifcaaDoor.frameit Go.Proofs.YtfinaikgikifcaaDoor.framem Go.Proofs.YtfinaikgikifcaaDoor.framel Go.Proofs.YtfinaikgikifcaaDoor.framea Go.Proofs.YtfinaikgikifcaaDoor.framer Go.Proofs.YtfinaikgikifcaaDoor.framen Go.Proofs.YtfinaikgikifcaaDoor.diskp Go.Proofs.YtfinaikgikifcaaDoor.diskr Go.Proofs.YtfinaikgikifcaaDoor.diskw

/-- a vault: its file, its generation, snapshot, records -/
structure Vt where
  f : Nat
  g : Int
  s : List Int
  r : List (List Int)
def noV : Vt := ⟨0, 0, [], []⟩
/-- what an opening does: the disk, the error, the vault -/
structure Opn where
  d : D
  e : Int
  v : Vt
/-- the file that counts -/
def pick (d : D) : Nat := if (lookF (fileB d 0)).1 < (lookF (fileB d 1)).1 then 1 else 0
/-- a new vault: steps one behind the other -/
def newR (d : D) (s : List Int) : Opn :=
  if (wipeR d 0 (fileB d 0).length).2 ≠ 0 then ⟨(wipeR d 0 (fileB d 0).length).1, (wipeR d 0 (fileB d 0).length).2, noV⟩
  else if (beginR (wipeR d 0 (fileB d 0).length).1 0 (firstB 1 s)).2 ≠ 0 then ⟨(beginR (wipeR d 0 (fileB d 0).length).1 0 (firstB 1 s)).1, (beginR (wipeR d 0 (fileB d 0).length).1 0 (firstB 1 s)).2, noV⟩
  else ⟨(wipeR (beginR (wipeR d 0 (fileB d 0).length).1 0 (firstB 1 s)).1 1 (fileB d 1).length).1, (wipeR (beginR (wipeR d 0 (fileB d 0).length).1 0 (firstB 1 s)).1 1 (fileB d 1).length).2, ⟨0, 1, s, []⟩⟩
/-- a vault that is there -/
def oldR (d : D) (f : Nat) : Opn :=
  if (wipeR d ((1 : Int) - f) (fileB d (1 - f)).length).2 ≠ 0 then ⟨(wipeR d ((1 : Int) - f) (fileB d (1 - f)).length).1, (wipeR d ((1 : Int) - f) (fileB d (1 - f)).length).2, noV⟩
  else ⟨(mendR (wipeR d ((1 : Int) - f) (fileB d (1 - f)).length).1 f (E (fileB d f) : Nat) (fileB d f).length).1, (mendR (wipeR d ((1 : Int) - f) (fileB d (1 - f)).length).1 f (E (fileB d f) : Nat) (fileB d f).length).2, ⟨f, (lookF (fileB d f)).1, (lookF (fileB d f)).2.1, (lookF (fileB d f)).2.2⟩⟩
def openR (d : D) (s : List Int) : Opn :=
  if 1048576 < 8 + s.length then ⟨d, 3, noV⟩
  else if d.off then ⟨d, 40, noV⟩
  else if (lookF (fileB d (pick d))).1 = 0 then newR d s
  else oldR d (pick d)
theorem Ok.openR {d : D} {S N : Nat} (h : Ok d S N) (s : List Int) : Ok (openR d s).d (S + 1048584) (N + 4) := by
  unfold vaultp.openR
  split
  · exact h.more (by omega) (by omega)
  · rename_i hs
    split
    · exact h.more (by omega) (by omega)
    · split
      · unfold newR
        have hb : (firstB 1 s).length ≤ 1048584 := by unfold firstB; rw [fenc_len, List.length_append, le8_len]; omega
        split
        · exact (Ok.wipe h 0 _).more (by omega) (by omega)
        · split
          · exact (Ok.begin_ (Ok.wipe h 0 _) 0 (firstB 1 s)).more (by omega) (by omega)
          · exact (Ok.wipe (Ok.begin_ (Ok.wipe h 0 _) 0 (firstB 1 s)) 1 _).more (by omega) (by omega)
      · unfold oldR
        split
        · exact (Ok.wipe h _ _).more (by omega) (by omega)
        · exact (Ok.mend (Ok.wipe h _ _) _ _ _).more (by omega) (by omega)
end Go.Proofs.YtfinaikgikifcaaDoor.vaultp
