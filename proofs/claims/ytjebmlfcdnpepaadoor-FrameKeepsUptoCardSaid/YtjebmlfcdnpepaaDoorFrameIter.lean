/- The iterator of frame.Frames has its contract (places and lengths); frame.End. -/
import Derived.Test.YtjebmlfcdnpepaaDoorFrameWalk
import Derived.Test.YtjebmlfcdnpepaaDoorKeep
import Derived.Test.YtjebmlfcdnpepaaDoorOver
import Derived.RangeFuncNested
import Derived.RangeFuncBound
import Derived.RangeFuncCalls
import Derived.RangeFuncLeaves
import Derived.Shelf.Abstract
import Derived.Shelf.RegionOpen
import Derived.WalkKit
import Derived.OwnWalkIn
import Derived.TacticsInMore
import Derived.LoopNIn
import Derived.LoopIn
set_option linter.unusedVariables false
set_option linter.unusedSimpArgs false
namespace Go.Proofs.YtjebmlfcdnpepaaDoor.frameit
open Go.RowKit Go.Shelf Go.Proofs.YtjebmlfcdnpepaaDoorW.PrintWords Go.Proofs.YtjebmlfcdnpepaaDoor.base Go.Proofs.YtjebmlfcdnpepaaDoor.mem Go.Proofs.YtjebmlfcdnpepaaDoor.crcp Go.Proofs.YtjebmlfcdnpepaaDoor.crcw Go.Proofs.YtjebmlfcdnpepaaDoor.samew Go.Proofs.YtjebmlfcdnpepaaDoor.keep Go.Proofs.YtjebmlfcdnpepaaDoor.framep Go.Proofs.YtjebmlfcdnpepaaDoor.framew Go.Proofs.YtjebmlfcdnpepaaDoor.over
attribute [local go_sem] Oper.semAt_some

/-- the function value's own bytes, in a band of the heap -/
def NumsAt (lo hi : Nat) (W : World) (Bs : Nat) (xs : List Int) : Prop := lo ≤ Bs ∧ Bs < hi ∧ ∃ A n c, W.cell? ⟨Bs, 0, none⟩ = some (.slice A n c) ∧ n ≤ c ∧ n ≤ 140737488355328 ∧ RdB W A n xs ∧ Lies lo hi A n
theorem bandCell {lo hi b i : Nat} {w w' : World} {v : Value} (h : Band lo hi w w') (h1 : lo ≤ b) (h2 : b < hi) (hc : w.cell? ⟨b, i, none⟩ = some v) : w'.cell? ⟨b, i, none⟩ = some v := by
  rw [← hc]; exact World.cell?_of_block (by exact h.2 b h1 h2)
theorem bandTrans {lo hi : Nat} {w w1 w2 : World} (h : Band lo hi w w1) (k : Band lo hi w1 w2) : Band lo hi w w2 := ⟨k.1, fun i a b => (k.2 i a b).trans (h.2 i a b)⟩
theorem band_put {lo hi : Nat} {w : World} (hw : hi ≤ w.heap.size) (W : World) (l : Nat) (o o' : Obj) (hl : w.heap.size ≤ l) (ho : W.heap[l]? = some o) (_ : o.isCells = false) (_ : o.isWalk = false) : Band lo hi W (W.putObj l o') := by
  have hlt := (Array.getElem?_eq_some_iff.1 ho).1
  refine ⟨?_, fun i _ b => ?_⟩
  · have : (W.putObj l o').heap.size = W.heap.size := by simp [World.putObj]
    omega
  · have : i ≠ l := by omega
    simp [World.putObj, this, Ne.symm this]
theorem NumsAt.band {lo hi Bs : Nat} {W W' : World} {xs : List Int} (h : NumsAt lo hi W Bs xs) (hb : Band lo hi W W') : NumsAt lo hi W' Bs xs := by
  obtain ⟨h0, h1, A, n, c, h2, h3, h4, h5, h6⟩ := h
  exact ⟨h0, h1, A, n, c, bandCell hb h0 h1 h2, h3, h4, RdB.band h5 h6 hb, h6⟩

theorem firstN_le (xs : List Int) : firstN xs ≤ xs.length := by
  unfold firstN
  split
  · omega
  · split
    · omega
    · rename_i h1 h2
      have : ¬ xs.length - 8 < (w4 xs).toNat := fun h => h2 (.inr (.inl h))
      omega
theorem firstN_ge (xs : List Int) (h : firstN xs ≠ 0) : 8 ≤ firstN xs := by
  unfold firstN at h ⊢
  split
  · rename_i h1; rw [if_pos h1] at h; exact absurd rfl h
  · rename_i h1
    rw [if_neg h1] at h
    split
    · rename_i h2; rw [if_pos h2] at h; exact absurd rfl h
    · omega
/-- places and payloads' lengths of the good frames -/
def fitems : Nat → Nat → List Int → List (Nat × Nat)
  | 0, _, _ => []
  | f + 1, p, xs => if firstN xs = 0 then [] else (p, firstN xs - 8) :: fitems f (p + firstN xs) (xs.drop (firstN xs))
theorem fitems_end (f p : Nat) (xs : List Int) (h : firstN xs = 0) : fitems f p xs = [] := by
  cases f with
  | zero => rfl
  | succ f => rw [fitems, if_pos h]
theorem fitems_next (f p : Nat) (xs : List Int) (h : firstN xs ≠ 0) : fitems (f + 1) p xs = (p, firstN xs - 8) :: fitems f (p + firstN xs) (xs.drop (firstN xs)) := by rw [fitems, if_neg h]
def flist (xs : List Int) : List (Nat × Nat) := fitems xs.length 0 xs
/-- what a round is handed -/
structure It where
  p : Nat
  A : Option Addr
  n : Nat
  c : Nat
  hp : p ≤ 140737488355328
  hn : n ≤ 140737488355328
def It.key (x : It) : Nat × Nat := (x.p, x.n)
abbrev encs (x : It) : Array Value := #[.int .i64 (x.p : Int), .slice x.A x.n x.c]
theorem eqlNil (A : Option Addr) (n c : Nat) (W : World) : (binOp .eql 22 (.slice A n c) (.slice none 0 0)).run Tryd.prog W = .ok (.bool A.isNone) W := by
  simp only [binOp]
  simp [run_equal_slice_nil W 22 5 A n c Tryd.underlying22]
theorem clone_any (A : Option Addr) (n c : Nat) (xs : List Int) (w : World) (hr : RdB w A n xs) (hn : n ≤ 140737488355328) :
    Calls Tryd.prog 23 #[.slice A n c] w fun e w' => ∃ A1 n1 c1, e = .returned (.slice A1 n1 c1) ∧ OwB w' w.heap.size A1 n1 c1 xs ∧ Below w.heap.size w w' := by
  have HR := Lib.hid hr
  have R0 := Lib.hid (Below.refl w.heap.size w)
  cases A with
  | none =>
    have h0 : n = 0 := by
      rcases Nat.eq_zero_or_pos n with h | h
      · exact h
      · obtain ⟨ad, he, _⟩ := hr.at_ 0 h; cases he
    subst h0
    obtain rfl : xs = [] := List.eq_nil_of_length_eq_zero hr.len
    clear hr
    go_enter Tryd.func23, Tryd.ntmps23
    have hen := fun W => eqlNil none 0 c W
    go_wp2
    go_ret
    exact ⟨none, 0, 0, rfl, OwB.nil _ _, Below.refl _ _⟩
  | some ad =>
    clear hr
    go_enter Tryd.func23, Tryd.ntmps23
    have hen := fun W => eqlNil (some ad) n c W
    go_wp2_with (first | (at_builtin; refine app (w0 := w) (base := w.heap.size) rfl (.tmp 5) (.tmp 6) rfl rfl rfl (OwB.lit0 w _ (Nat.le_refl _)) (HR.out.below (R0.out.alloc (Nat.le_refl _) _)) (R0.out.alloc (Nat.le_refl _) _) ?s2 ?l2 ?_; (case s2 => simp); (case l2 => omega); intro A2 n2 c2 w2 ho hb; have hl := ho.len; rw [List.nil_append] at ho; rw [List.nil_append, HR.out.len] at hl; subst hl; have HO2 := Lib.hid ho; have HB2 := Lib.hid hb; clear ho hb))
    go_ret
    exact ⟨A2, n, c2, rfl, HO2.out, HB2.out⟩
def RetF (w : World) (xs : List Int) (e : Ending) (w' : World) : Prop := ∃ Bs, e = .returned (.func (.func 24) #[] #[.pointer (some ⟨Bs, 0, none⟩)]) ∧ NumsAt w.heap.size w'.heap.size w' Bs xs ∧ Below w.heap.size w w'
theorem frames_any (A : Option Addr) (n c : Nat) (xs : List Int) (w : World) (hr : RdB w A n xs) (hn : n ≤ 140737488355328) :
    Calls Tryd.prog 14 #[.slice A n c] w (RetF w xs) := by
  have HC := Lib.hid (clone_any A n c xs w hr hn)
  have hl := hr.len
  clear hr
  go_enter Tryd.func14, Tryd.ntmps14
  go_wp2_with fail
  refine HC.out.mono ?_
  rintro e w2 ⟨A2, n2, c2, rfl, ho, hb⟩
  have hl2 := ho.len
  have HO2 := Lib.hid ho
  have HB2 := Lib.hid hb
  clear ho hb
  go_wp2
  go_ret
  refine ⟨w2.heap.size, rfl, ⟨HB2.out.size, by simp, A2, n2, c2, by simp, HO2.out.cap, by omega, (HO2.out.alloc _).rd, OwB.lies HO2.out (Nat.le_refl _) (by simp)⟩, HB2.out.alloc HB2.out.size _⟩
/-- what a round keeps: the iterator's own bytes, and the table -/
def KT (lo hi : Nat) (W W' : World) : Prop := Band lo hi W W' ∧ (Table W → Table W') ∧ W.heap.size ≤ W'.heap.size
theorem KT.trans {lo hi : Nat} {A B C : World} (h : KT lo hi A B) (k : KT lo hi B C) : KT lo hi A C := ⟨bandTrans h.1 k.1, fun t => k.2.1 (h.2.1 t), Nat.le_trans h.2.2 k.2.2⟩
theorem Table.lt {w : World} (h : Table w) : 0 < w.heap.size := World.block_lt_of_cell? _ _ (h 0 (by decide))
theorem KT.put {lo hi : Nat} {w : World} (hw : hi ≤ w.heap.size) (ht : Table w) (W : World) (l : Nat) (o o' : Obj) (hl : w.heap.size ≤ l) (ho : W.heap[l]? = some o) (hc : o.isCells = false) (hk : o.isWalk = false) : KT lo hi W (W.putObj l o') :=
  ⟨band_put hw W l o o' hl ho hc hk, fun t i hi => by
    rw [← t i hi]
    have := Table.lt ht
    exact World.cell?_of_block (World.putObj_heap_other (by show 0 ≠ l; omega)), by simp⟩
theorem bandBelow {lo hi : Nat} {w w' : World} (h : Below w.heap.size w w') (hw : hi ≤ w.heap.size) : Band lo hi w w' := ⟨by have := h.size; omega, fun i a b => h.block i (by omega)⟩
theorem KT.below {lo hi : Nat} {w w' : World} (hb : Below w.heap.size w w') (hw : hi ≤ w.heap.size) : KT lo hi w w' := ⟨bandBelow hb hw, fun t => t.below hb, hb.size⟩
theorem OwB.kept {w w' : World} {base n c : Nat} {A : Option Addr} {ys : List Int} (h : OwB w base A n c ys) {row : Option Nat} (hg : w.grownBy w' row) (hr : ∀ r, row = some r → ∃ o : Obj, w.heap[r]? = some o ∧ o.isCells = false) : OwB w' base A n c ys := by
  refine ⟨h.1.kept hg ?_, h.2⟩
  rcases h.1.2 with ⟨hv, _⟩ | ⟨g, cap, cur, hv, _, hb, _, _, _⟩
  · injection hv with h1 _ _
    subst h1
    exact .inl rfl
  · injection hv with h1 _ _
    subst h1
    refine .inr fun e => ?_
    obtain ⟨o, ho, hc⟩ := hr g e.symm
    rw [hb] at ho
    injection ho with ho
    subst ho
    cases hc
/-- the payload of a round -/
def pay (xs : List Int) (x : It) : List Int := (xs.drop (x.p + 8)).take x.n
/-- what a round is told -/
def V (xs : List Int) (B : Nat) (pre : List It) (x : It) (W : World) : Prop := (pre ++ [x]).map It.key <+: flist xs ∧ OwB W B x.A x.n x.c (pay xs x)
theorem pay_eq {xs : List Int} {p k : Nat} {A : Option Addr} {c : Nat} {h1 h2} (hk : 8 ≤ k) : (xs.take (p + k)).drop (p + 8) = pay xs ⟨p, A, k - 8, c, h1, h2⟩ := by
  unfold pay
  rw [List.drop_take]
  congr 1
  show p + k - (p + 8) = k - 8
  omega
theorem V.own {xs : List Int} {b : Nat} (B : Nat) : OwnFrom b (fun (z : List It × It) W => V xs B z.1 z.2 W) := fun z W W' row h hg hr => ⟨h.1, OwB.kept h.2 hg fun r e => (hr r e).2⟩
set_option maxRecDepth 100000 in
set_option maxHeartbeats 2000000 in
theorem all1_in (n : Nat) (hn : 1 ≤ n) (l Bs lo hi : Nat) (xs : List Int) (J Jx : List It → World → Prop)
    (B : Nat) (hY : ∀ pre x W0 W, J pre W0 → J pre W → B ≤ W0.heap.size → CK W0 W → V xs W0.heap.size pre x W → YieldAt Fence.wide (n - 1) Tryd.prog l (encs x) W fun e W' =>
      (e = .returned (.bool true) ∧ J (pre ++ [x]) W' ∧ KT lo hi W W') ∨ (e = .returned (.bool false) ∧ Jx (pre ++ [x]) W'))
    (W : World) (hBW : B ≤ W.heap.size) (hN : NumsAt lo hi W Bs xs) (hW : hi ≤ W.heap.size) (hT : Table W) (hab : AbidesFrom W.heap.size J) (h0 : J [] W) :
    CallsIn Fence.wide n Tryd.prog 24 #[.func (.yield l) #[] #[], .pointer (some ⟨Bs, 0, none⟩)] W fun e W' => (∃ v, e = .returned v) ∧
      ((∃ ys, ys.map It.key = flist xs ∧ J ys W') ∨ (∃ pre, pre.map It.key <+: flist xs ∧ Jx pre W')) := by
  obtain ⟨A, m, c, hcell0, hc, hm, hR0, hL⟩ : ∃ A n c, W.cell? ⟨Bs, 0, none⟩ = some (.slice A n c) ∧ n ≤ c ∧ n ≤ 140737488355328 ∧ RdB W A n xs ∧ Lies lo hi A n := hN.2.2
  have hBs := hN.1
  have hBs2 := hN.2.1
  have HR := Lib.hid hR0
  have HL := Lib.hid hL
  have hlen := hR0.len
  have HC := Lib.hid hcell0
  have HAB : Hid (∀ s w1 w2, J s w1 → Below w1.heap.size w1 w2 → J s w2) := Lib.hid fun s w1 w2 hj hb => hab s w1 w2 none hj (grown_of_below hb none) (fun r e => by cases e)
  have HT0 := Lib.hid hT
  clear hN hR0 hL hcell0 hab hT
  refine callsIn_of_wp Tryd.func24 rfl trivial ?_ rfl
  simp only [Tryd.ntmps24, List.size_toArray, List.length_cons, List.length_nil, Nat.reduceAdd, Nat.reduceSub, Array.replicate_succ, Array.replicate_zero, List.push_toArray, List.append_toArray, List.nil_append, List.cons_append]
  gi_wp2
  gi_loopw [3] (fun i wr => ∃ (p f : Nat) (pre : List It), p ≤ m ∧ i = .int .i64 p ∧ m - p ≤ f ∧ Aside0 (pre.map It.key ++ fitems f p (xs.drop p) = flist xs) ∧ Aside0 (J pre wr) ∧ Aside0 (KT lo hi W wr)) (fun i _ => m - (intOf i).toNat)
  case atStart => exact ⟨0, xs.length, [], by omega, rfl, by omega, ⟨rfl⟩, ⟨h0⟩, ⟨Band.refl hW, fun t => t, Nat.le_refl _⟩⟩
  case round =>
    obtain ⟨p, f, pre, hp, rfl, hf, HE, HJ, HB⟩ := hrel
    have hcell : wr.cell? ⟨Bs, 0, none⟩ = some (.slice A m c) := bandCell HB.out.1 hBs hBs2 HC.out
    obtain ⟨A2, n2, c2, hcut, hm1, hm2, hm3, hrd⟩ := cutL A m c p hp hc
    have HRr := Lib.hid (RdB.band HR.out HL.out HB.out.1)
    have HTr := Lib.hid (HB.out.2.1 HT0.out)
    have HF := Lib.hid (first_any A2 n2 c2 (xs.drop p) wr (hrd _ _ HRr.out) hm3 HTr.out)
    have hd := firstN_le (xs.drop p)
    have hg := firstN_ge (xs.drop p)
    rw [List.length_drop, hlen] at hd
    have hbw : hi ≤ wr.heap.size := HB.out.1.1
    clear hrd
    by_cases h0 : firstN (xs.drop p) = 0
    · have hE := HE.out
      rw [fitems_end _ _ _ h0, List.append_nil] at hE
      have HE := Lib.hid hE
      rw [h0] at HF
      clear hE h0 hd hg
      gi_wp2_with (refine ⟨trivial, ?_⟩; gi_at_call 25; refine (callsIn_wide.2 HF.out).mono ?_; rintro e w5 ⟨rfl, hb⟩; have HJ5 := Lib.hid (HAB.out _ _ _ HJ.out hb); clear hb)
      refine ⟨trivial, ?_⟩
      gi_wp2
      refine ⟨fun _ h => (by cases h), ?_⟩
      gi_wp2
      refine bodyPost_ret (results_none rfl _ _ _) rfl ?_
      exact ⟨⟨_, rfl⟩, .inl ⟨pre, HE.out, HJ5.out⟩⟩
    · have hg8 := hg h0
      have hN := Lib.hid (fitems_next (f - 1) p (xs.drop p) h0)
      generalize hk : firstN (xs.drop p) = k at HF hd hg8 h0 hN
      clear hg
      obtain ⟨f', rfl⟩ : ∃ f', f = f' + 1 := ⟨f - 1, by omega⟩
      have hE := HE.out
      rw [show f' + 1 - 1 = f' from rfl] at hN
      rw [hN.out, List.drop_drop] at hE
      have HE := Lib.hid hE
      clear hE hk hN
      obtain ⟨A3, n3, c3, hcut3, q1, q2, q3, hrd3⟩ := cutLH A m c (p + 8) (p + k) (by omega) (by omega) hc
      have e8 : ((p + 8 : Nat) : Int) = (p : Int) + 8 := by omega
      have ek : ((p + k : Nat) : Int) = (p : Int) + (k : Int) := by omega
      have hcut3 : ∀ W : World, (Instr.slice 22 (.slice A m c) (some (.int .i64 ((p : Int) + 8))) (some (.int .i64 ((p : Int) + (k : Int)))) none).run Tryd.prog W = .ok (.slice A3 n3 c3) W := fun W => by have := hcut3 W; rw [e8, ek] at this; exact this
      obtain rfl : n3 = k - 8 := by omega
      have hkb : ((k : Int) == 0) = false := beq_eq_false_iff_ne.2 (by omega)
      clear e8 ek
      gi_wp2_with (first | (refine ⟨trivial, ?_⟩; gi_at_call 25; refine (callsIn_wide.2 HF.out).mono ?_; rintro e w5 ⟨rfl, hb⟩; have HJ5 := Lib.hid (HAB.out _ _ _ HJ.out hb); have HB5 := Lib.hid (KT.trans HB.out (KT.below hb hbw)); have hcell5 : w5.cell? ⟨Bs, 0, none⟩ = some (.slice A m c) := bandCell HB5.out.1 hBs hBs2 HC.out; have HR5 := Lib.hid (RdB.band HR.out HL.out HB5.out.1); have hs5 := hb.size; clear hb) | (refine ⟨trivial, ?_⟩; gi_at_call 23; refine (callsIn_wide.2 (clone_any A3 (k - 8) c3 _ w5 (hrd3 _ _ HR5.out) (by omega))).mono ?_; rintro e w6 ⟨A4, n4, c4, rfl, ho, hb⟩; have hn4 : n4 = k - 8 := (by have h1 := ho.len; have h2 := (hrd3 _ _ HR5.out).len; omega); subst hn4; have HJ6 := Lib.hid (HAB.out _ _ _ HJ5.out hb); have HB6 := Lib.hid (KT.trans HB5.out (KT.below hb (by omega))); obtain ⟨fn, tmps, assign, body, hy, hR⟩ := hY pre ⟨p, A4, k - 8, c4, (by omega), (by omega)⟩ w5 w6 HJ5.out HJ6.out (Nat.le_trans hBW HB5.out.2.2) (CK.of_below hb) ⟨⟨_, by rw [← HE.out]; simp [It.key]; rfl⟩, (by have h3 := ho; rw [pay_eq (by omega)] at h3; exact h3)⟩; dsimp only [encs] at hy; clear ho hb))
      refine hR.mono ?_
      rintro e W3 (⟨rfl, hJ3, hk3⟩ | ⟨rfl, hJx3⟩)
      · have HJ3 := Lib.hid hJ3
        have HB3 := Aside0.mk (KT.trans HB6.out hk3)
        clear hJ3 hk3
        gi_wp2
        go_roundw
        case rel => exact ⟨p + k, f', pre ++ [⟨p, A4, k - 8, c4, (by omega), (by omega)⟩], by omega, by go_num, by omega, ⟨by rw [← HE.out]; simp [It.key]⟩, ⟨HJ3.out⟩, HB3⟩
        case measure => simp [intOf]; omega
      · gi_wp2
        refine bodyPost_ret (results_none rfl _ _ _) rfl ?_
        exact ⟨⟨_, rfl⟩, .inr ⟨_, ⟨_, by rw [← HE.out]; simp [It.key]; rfl⟩, hJx3⟩⟩
theorem all_v (n : Nat) (hn : 1 ≤ n) (Bs lo hi : Nat) (xs : List Int) (w : World) (hn₀ : hi ≤ w.heap.size) (hN : NumsAt lo hi w Bs xs) (hT : Table w) :
    SeqV Fence.wide n Tryd.prog 24 #[.pointer (some ⟨Bs, 0, none⟩)] encs (KT lo hi) (V xs) (fun ys => ys.map It.key = flist xs) (fun pre => pre.map It.key <+: flist xs) w := fun l J Jx W hW hJ _ hY h0 =>
  all1_in n hn l Bs lo hi xs J Jx _ hY W (Nat.le_refl _) (hN.band (bandBelow hW hn₀)) (Nat.le_trans hn₀ hW.size) (hT.below hW) hJ h0
theorem all_stops (n : Nat) (hn : 1 ≤ n) (Bs lo hi : Nat) (xs : List Int) (w : World) (hn₀ : hi ≤ w.heap.size) (hN : NumsAt lo hi w Bs xs) (hT : Table w) :
    SeqStopsK Fence.wide n Tryd.prog 24 #[.pointer (some ⟨Bs, 0, none⟩)] encs (KT lo hi) (fun ys => ys.map It.key = flist xs) (fun pre => pre.map It.key <+: flist xs) (flist xs).length w :=
  (all_v n hn Bs lo hi xs w hn₀ hN hT).stops fun B pre x W hv => by
    have h1 := hv.1.length_le
    simp at h1
    omega
end Go.Proofs.YtjebmlfcdnpepaaDoor.frameit
