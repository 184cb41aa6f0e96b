/- The iterator of pack.Numbers has its contract. -/
import Derived.Test.YtlbhmbbmpmhcjaaPackKeep
import Derived.Test.YtlbhmbbmpmhcjaaNumsPure
import Derived.RangeFuncNested
import Derived.RangeFuncBound
import Derived.RangeFuncCalls
import Derived.RangeFuncLeaves
import Derived.Shelf.Abstract
import Derived.Shelf.RegionOpen
import Derived.WalkKit
import Derived.OwnWalkIn
import Derived.TacticsInMore
import Derived.LoopNIn
import Derived.LoopIn
set_option linter.unusedVariables false
set_option linter.unusedSimpArgs false
namespace Go.Proofs.Ytlbhmbbmpmhcjaa.numsw
open Go.RowKit Go.Shelf Go.Proofs.YtlbhmbbmpmhcjaaW.PrintWords Go.Proofs.Ytlbhmbbmpmhcjaa.base Go.Proofs.Ytlbhmbbmpmhcjaa.mem Go.Proofs.Ytlbhmbbmpmhcjaa.packp Go.Proofs.Ytlbhmbbmpmhcjaa.packw Go.Proofs.Ytlbhmbbmpmhcjaa.samew Go.Proofs.Ytlbhmbbmpmhcjaa.keep Go.Proofs.Ytlbhmbbmpmhcjaa.numsp
attribute [local go_sem] Oper.semAt_some

/-- the function value's own bytes, in a band of the heap -/
def NumsAt (lo hi : Nat) (W : World) (Bs : Nat) (xs : List Int) : Prop := lo ≤ Bs ∧ Bs < hi ∧ ∃ A n c, W.cell? ⟨Bs, 0, none⟩ = some (.slice A n c) ∧ n ≤ c ∧ n ≤ 140737488355328 ∧ RdB W A n xs ∧ Lies lo hi A n
theorem bandCell {lo hi b i : Nat} {w w' : World} {v : Value} (h : Band lo hi w w') (h1 : lo ≤ b) (h2 : b < hi) (hc : w.cell? ⟨b, i, none⟩ = some v) : w'.cell? ⟨b, i, none⟩ = some v := by
  rw [← hc]; exact World.cell?_of_block (by exact h.2 b h1 h2)
theorem bandTrans {lo hi : Nat} {w w1 w2 : World} (h : Band lo hi w w1) (k : Band lo hi w1 w2) : Band lo hi w w2 := ⟨k.1, fun i a b => (k.2 i a b).trans (h.2 i a b)⟩
theorem band_put {lo hi : Nat} {w : World} (hw : hi ≤ w.heap.size) (W : World) (l : Nat) (o o' : Obj) (hl : w.heap.size ≤ l) (ho : W.heap[l]? = some o) (_ : o.isCells = false) (_ : o.isWalk = false) : Band lo hi W (W.putObj l o') := by
  have hlt := (Array.getElem?_eq_some_iff.1 ho).1
  refine ⟨?_, fun i _ b => ?_⟩
  · have : (W.putObj l o').heap.size = W.heap.size := by simp [World.putObj]
    omega
  · have : i ≠ l := by omega
    simp [World.putObj, this, Ne.symm this]
theorem NumsAt.band {lo hi Bs : Nat} {W W' : World} {xs : List Int} (h : NumsAt lo hi W Bs xs) (hb : Band lo hi W W') : NumsAt lo hi W' Bs xs := by
  obtain ⟨h0, h1, A, n, c, h2, h3, h4, h5, h6⟩ := h
  exact ⟨h0, h1, A, n, c, bandCell hb h0 h1 h2, h3, h4, RdB.band h5 h6 hb, h6⟩
abbrev encs (x : Nat × Int) : Array Value := #[.int .i64 (x.1 : Int), .int .i64 x.2]
def RetF (w : World) (xs : List Int) (e : Ending) (w' : World) : Prop := ∃ Bs, e = .returned (.func (.func 29) #[] #[.pointer (some ⟨Bs, 0, none⟩)]) ∧ NumsAt w.heap.size w'.heap.size w' Bs xs ∧ Below w.heap.size w w'
theorem numbers_any (A : Option Addr) (n c : Nat) (xs : List Int) (w : World) (hr : RdB w A n xs) (hn : n ≤ 140737488355328) :
    Calls Try.prog 18 #[.slice A n c] w (RetF w xs) := by
  have HR := Lib.hid hr
  have R0 := Lib.hid (Below.refl w.heap.size w)
  clear hr
  go_enter Try.func18, Try.ntmps18
  go_wp2_with (first | (at_builtin; refine app (w0 := w) (base := w.heap.size) rfl (.tmp 4) (.tmp 5) rfl rfl rfl (OwB.lit0 w _ (Nat.le_refl _)) (HR.out.below (R0.out.alloc (Nat.le_refl _) _)) (R0.out.alloc (Nat.le_refl _) _) ?s2 ?l2 ?_; (case s2 => simp); (case l2 => omega); intro A2 n2 c2 w2 ho hb; have hl := ho.len; rw [List.nil_append] at ho; rw [List.nil_append, HR.out.len] at hl; subst hl; have HO2 := Lib.hid ho; have HB2 := Lib.hid hb; clear ho hb))
  go_ret
  refine ⟨w2.heap.size, rfl, ⟨HB2.out.size, by simp, A2, n, c2, by simp, HO2.out.cap, hn, (HO2.out.alloc _).rd, OwB.lies HO2.out (Nat.le_refl _) (by simp)⟩, HB2.out.alloc HB2.out.size _⟩
set_option maxRecDepth 100000 in
set_option maxHeartbeats 2000000 in
theorem all1_in (n : Nat) (hn : 1 ≤ n) (l Bs lo hi : Nat) (xs : List Int) (J Jx : List (Nat × Int) → World → Prop)
    (hY : ∀ pre x W, J pre W → pre.length < (numsp.nums xs).length → YieldAt Fence.wide (n - 1) Try.prog l (encs x) W fun e W' =>
      (e = .returned (.bool true) ∧ J (pre ++ [x]) W' ∧ Band lo hi W W') ∨ (e = .returned (.bool false) ∧ Jx (pre ++ [x]) W'))
    (W : World) (hN : NumsAt lo hi W Bs xs) (hW : hi ≤ W.heap.size) (h0 : J [] W) :
    CallsIn Fence.wide n Try.prog 29 #[.func (.yield l) #[] #[], .pointer (some ⟨Bs, 0, none⟩)] W fun e W' => (∃ v, e = .returned v) ∧
      ((∃ ys, ys = numsp.nums xs ∧ J ys W') ∨ (∃ pre, pre <+: numsp.nums xs ∧ Jx pre W')) := by
  obtain ⟨A, m, c, hcell0, hc, hm, hR0, hL⟩ : ∃ A n c, W.cell? ⟨Bs, 0, none⟩ = some (.slice A n c) ∧ n ≤ c ∧ n ≤ 140737488355328 ∧ RdB W A n xs ∧ Lies lo hi A n := hN.2.2
  have hBs := hN.1
  have hBs2 := hN.2.1
  have HR := Lib.hid hR0
  have HL := Lib.hid hL
  have hlen := hR0.len
  have HC := Lib.hid hcell0
  clear hN hR0 hL hcell0
  refine callsIn_of_wp Try.func29 rfl trivial ?_ rfl
  simp only [Try.ntmps29, List.size_toArray, List.length_cons, List.length_nil, Nat.reduceAdd, Nat.reduceSub, Array.replicate_succ, Array.replicate_zero, List.push_toArray, List.append_toArray, List.nil_append, List.cons_append]
  gi_wp2
  gi_loopw [3] (fun i wr => ∃ (p f : Nat) (pre : List (Nat × Int)), p ≤ m ∧ i = .int .i64 p ∧ m - p ≤ f ∧ Aside0 (pre ++ items f p (xs.drop p) = numsp.nums xs) ∧ Aside0 (J pre wr) ∧ Aside0 (Band lo hi W wr)) (fun i _ => m - (intOf i).toNat)
  case atStart => exact ⟨0, xs.length, [], by omega, rfl, by omega, ⟨rfl⟩, ⟨h0⟩, ⟨Band.refl hW⟩⟩
  case round =>
    obtain ⟨p, f, pre, hp, rfl, hf, HE, HJ, HB⟩ := hrel
    have hcell : wr.cell? ⟨Bs, 0, none⟩ = some (.slice A m c) := bandCell HB.out hBs hBs2 HC.out
    obtain ⟨A2, n2, c2, hcut, hm1, hm2, hm3, hrd⟩ := cutL A m c p hp hc
    have HT := Lib.hid (take_any A2 n2 c2 (xs.drop p) wr (hrd _ _ (RdB.band HR.out HL.out HB.out)))
    have hd := dec_len (xs.drop p) (HR.out.2.drop p)
    rw [List.length_drop, hlen] at hd
    clear hrd
    by_cases h0 : (dec 0 (xs.drop p)).2 = 0
    · have hE := HE.out
      rw [items_end _ _ _ h0, List.append_nil] at hE
      have HE := Lib.hid hE
      rw [h0] at HT
      generalize (dec 0 (xs.drop p)).1 = x at HT
      clear hE h0 hd
      gi_wp2_with (refine ⟨trivial, ?_⟩; gi_at_call 12; refine (callsIn_wide.2 HT.out).mono ?_; rintro e w' ⟨rfl, rfl⟩)
      refine ⟨fun _ h => (by cases h), ?_⟩
      gi_wp2
      refine bodyPost_ret (results_none rfl _ _ _) rfl ?_
      exact ⟨⟨_, rfl⟩, .inl ⟨pre, HE.out, HJ.out⟩⟩
    · generalize hx : (dec 0 (xs.drop p)).1 = x at HT
      generalize hk : (dec 0 (xs.drop p)).2 = k at HT hd h0
      obtain ⟨f', rfl⟩ : ∃ f', f = f' + 1 := ⟨f - 1, by omega⟩
      have hE := HE.out
      rw [items_next _ _ _ (by rw [hk]; exact h0), hx, hk, List.drop_drop] at hE
      have HE := Lib.hid hE
      have HJs := Lib.hid HJ.out
      have hk1 : 1 ≤ k := by omega
      have hkb : ((k : Int) == 0) = false := beq_eq_false_iff_ne.2 (by omega)
      clear hE hx hk
      obtain ⟨fn, tmps, assign, body, hy, hR⟩ := hY pre (p, x) wr HJs.out (by rw [← HE.out]; simp)
      dsimp only [encs] at hy
      gi_wp2_with (refine ⟨trivial, ?_⟩; gi_at_call 12; refine (callsIn_wide.2 HT.out).mono ?_; rintro e w' ⟨rfl, rfl⟩)
      refine hR.mono ?_
      rintro e W3 (⟨rfl, hJ3, hk3⟩ | ⟨rfl, hJx3⟩)
      · gi_wp2
        go_roundw
        case rel => exact ⟨p + k, f', pre ++ [(p, x)], by omega, by go_num, by omega, ⟨by rw [← HE.out]; simp⟩, ⟨hJ3⟩, ⟨bandTrans HB.out hk3⟩⟩
        case measure => simp [intOf]; omega
      · gi_wp2
        refine bodyPost_ret (results_none rfl _ _ _) rfl ?_
        exact ⟨⟨_, rfl⟩, .inr ⟨pre ++ [(p, x)], ⟨_, by rw [← HE.out]; simp; rfl⟩, hJx3⟩⟩
theorem all_stops (n : Nat) (hn : 1 ≤ n) (Bs lo hi : Nat) (xs : List Int) (w : World) (hn₀ : hi ≤ w.heap.size) (hN : NumsAt lo hi w Bs xs) :
    SeqStopsK Fence.wide n Try.prog 29 #[.pointer (some ⟨Bs, 0, none⟩)] encs (Band lo hi) (fun ys => ys = numsp.nums xs) (fun pre => pre <+: numsp.nums xs) (numsp.nums xs).length w := fun l J Jx W hW _ _ hY h0 =>
  all1_in n hn l Bs lo hi xs J Jx hY W (hN.band ((Band.of_below hW).narrow hn₀)) (Nat.le_trans hn₀ hW.size) h0
end Go.Proofs.Ytlbhmbbmpmhcjaa.numsw
