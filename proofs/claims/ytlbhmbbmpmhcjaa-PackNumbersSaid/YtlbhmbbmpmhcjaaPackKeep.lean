/- Readers and owned slices in a band of the heap. -/
import Derived.Test.YtlbhmbbmpmhcjaaReader
import Derived.Test.YtlbhmbbmpmhcjaaKeep
import Derived.Test.YtlbhmbbmpmhcjaaMemI
set_option linter.unusedVariables false
set_option linter.unusedSimpArgs false
namespace Go.Proofs.Ytlbhmbbmpmhcjaa.keep
open Go.RowKit Go.Proofs.YtlbhmbbmpmhcjaaW.PrintWords Go.Proofs.Ytlbhmbbmpmhcjaa.base Go.Proofs.Ytlbhmbbmpmhcjaa.mem Go.Proofs.Ytlbhmbbmpmhcjaa.packp Go.Proofs.Ytlbhmbbmpmhcjaa.packw Go.Proofs.Ytlbhmbbmpmhcjaa.samew Go.Proofs.Ytlbhmbbmpmhcjaa.rdr

/-- a reader whose block and bytes lie in the band -/
def RdrIn (lo hi : Nat) (T : TypeId) (w : World) (r : Nat) (bad : Bool) (xs : List Int) : Prop :=
  lo ≤ r ∧ r < hi ∧ ∃ A n c, w.heap[r]? = some (.cells #[.slice A n c, .bool bad] T (0, 0)) ∧ n ≤ c ∧ n ≤ 140737488355328 ∧ RdT w A n xs ∧ Lies lo hi A n
theorem RdrIn.rdr {lo hi r : Nat} {T : TypeId} {w : World} {bad : Bool} {xs : List Int} (h : RdrIn lo hi T w r bad xs) : Rdr T w r bad xs := by
  obtain ⟨_, _, A, n, c, h1, h2, h3, h4, _⟩ := h
  exact ⟨A, n, c, h1, h2, h3, h4⟩
theorem RdT.band {lo hi : Nat} {w w' : World} {A : Option Addr} {n : Nat} {xs : List Int} (h : RdT w A n xs) (hl : Lies lo hi A n) (hb : Band lo hi w w') : RdT w' A n xs :=
  ⟨RdB.band h.1 hl hb, fun hn ad ha => by
    obtain ⟨g, e, h1, h2⟩ := hl hn
    rw [ha] at e
    injection e with e
    subst e
    obtain ⟨cur, fr, hc⟩ := h.2 hn _ ha
    exact ⟨cur, fr, by rw [hb.2 g h1 h2]; exact hc⟩⟩
theorem RdrIn.band {lo hi r : Nat} {T : TypeId} {w w' : World} {bad : Bool} {xs : List Int} (h : RdrIn lo hi T w r bad xs) (hb : Band lo hi w w') : RdrIn lo hi T w' r bad xs := by
  obtain ⟨l1, l2, A, n, c, h1, h2, h3, h4, h5⟩ := h
  exact ⟨l1, l2, A, n, c, by rw [hb.2 r l1 l2]; exact h1, h2, h3, RdT.band h4 h5 hb, h5⟩
theorem Lies.wide {lo hi lo' hi' : Nat} {A : Option Addr} {n : Nat} (h : Lies lo hi A n) (h1 : lo' ≤ lo) (h2 : hi ≤ hi') : Lies lo' hi' A n := fun hn => by
  obtain ⟨g, e, a, b⟩ := h hn
  exact ⟨g, e, by omega, by omega⟩
theorem RdrIn.wide {lo hi lo' hi' r : Nat} {T : TypeId} {w : World} {bad : Bool} {xs : List Int} (h : RdrIn lo hi T w r bad xs) (a : lo' ≤ lo) (b : hi ≤ hi') : RdrIn lo' hi' T w r bad xs := by
  obtain ⟨l1, l2, A, n, c, h1, h2, h3, h4, h5⟩ := h
  exact ⟨by omega, by omega, A, n, c, h1, h2, h3, h4, h5.wide a b⟩
theorem Band.narrow {lo hi hi' : Nat} {w w' : World} (h : Band lo hi w w') (h1 : hi' ≤ hi) : Band lo hi' w w' := ⟨by have := h.1; omega, fun i a b => h.2 i a (by omega)⟩
theorem Band.of_below {lo : Nat} {w w' : World} (h : Below w.heap.size w w') : Band lo w.heap.size w w' := ⟨h.size, fun i _ b => h.block i b⟩
theorem OwB.band {lo hi base n c : Nat} {w w' : World} {A : Option Addr} {xs : List Int} (h : OwB w base A n c xs) (hl : ∀ j, (Value.slice A n c).ownBlock = some j → lo ≤ j ∧ j < hi) (hb : Band lo hi w w') : OwB w' base A n c xs := by
  refine ⟨⟨h.1.1, ?_⟩, h.2⟩
  obtain ⟨_, h2⟩ := h.1
  rcases h2 with h3 | ⟨g, cap, cur, hv, hg, hh, h4⟩
  · exact .inl h3
  · have := hl g (by rw [hv]; rfl)
    exact .inr ⟨g, cap, cur, hv, hg, by rw [hb.2 g this.1 this.2]; exact hh, h4⟩
/-- what grows a reader's block leaves a slice of bytes -/
theorem OwB.otherR {w w' : World} {base n c r : Nat} {A : Option Addr} {xs ys : List Int} {T : TypeId} {bad : Bool} (h : OwB w base A n c xs) (k : Rdr T w r bad ys) (hT : T ≠ 5) (hg : w.grownBy w' (some r)) : OwB w' base A n c xs := by
  obtain ⟨_, _, _, h1, _⟩ := k
  have := own_ne h.1 h1 (Ne.symm hT)
  exact ⟨own_other h.1 hg (.inr (Ne.symm this)), h.2⟩
theorem OwI.otherR {w w' : World} {base n c r : Nat} {A : Option Addr} {xs ys : List Int} {T : TypeId} {bad : Bool} (h : OwI w base A n c xs) (k : Rdr T w r bad ys) (hT : T ≠ 3) (hg : w.grownBy w' (some r)) : OwI w' base A n c xs := by
  obtain ⟨_, _, _, h1, _⟩ := k
  have := own_ne h h1 (Ne.symm hT)
  exact own_other h hg (.inr (Ne.symm this))
def RetNI (w : World) (xs : List Int) (e : Ending) (w' : World) : Prop := ∃ r, e = .returned (.pointer (some ⟨r, 0, none⟩)) ∧ RdrIn w.heap.size w'.heap.size 54 w' r false xs ∧ Below w.heap.size w w'
theorem new_in (A : Option Addr) (n c : Nat) (xs : List Int) (w : World) (hr : RdB w A n xs) (hn : n ≤ 140737488355328) :
    Calls Try.prog 19 #[.slice A n c] w (RetNI w xs) := by
  have HR := Lib.hid hr
  have R0 := Lib.hid (Below.refl w.heap.size w)
  clear hr
  go_enter Try.func19, Try.ntmps19
  go_wp2_with (first | (at_builtin; refine app (w0 := w) (base := w.heap.size) rfl (.tmp 3) (.tmp 4) rfl rfl rfl (OwB.lit0 w _ (Nat.le_refl _)) (HR.out.below (R0.out.alloc (Nat.le_refl _) _)) (R0.out.alloc (Nat.le_refl _) _) ?s2 ?l2 ?_; (case s2 => simp); (case l2 => omega); intro A2 n2 c2 w2 ho hb; have hl := ho.len; rw [List.nil_append] at ho; rw [List.nil_append, HR.out.len] at hl; subst hl; have HO2 := Lib.hid ho; have HB2 := Lib.hid hb; clear ho hb))
  go_ret
  refine ⟨w2.heap.size, rfl, ⟨HB2.out.size, by simp, A2, n, c2, ?_, HO2.out.cap, hn, (OwB.rdT HO2.out).below (below_alloc (Below.refl _ _) _), OwB.lies HO2.out (Nat.le_refl _) (by simp)⟩, HB2.out.alloc HB2.out.size _⟩
  show (w2.heap.push _)[w2.heap.size]? = _
  simp
end Go.Proofs.Ytlbhmbbmpmhcjaa.keep
