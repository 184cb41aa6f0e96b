/- What datagrams are as bytes: plain laws. -/
import Derived.Test.YtobkcedmjeidfaaDoorWirePure2
import Derived.Test.YtobkcedmjeidfaaDoorCrcPure2
set_option linter.unusedVariables false
set_option linter.unusedSimpArgs false
namespace Go.Proofs.YtobkcedmjeidfaaDoor.gramp
open Go.RowKit Go.Proofs.YtobkcedmjeidfaaDoorW.PrintWords Go.Proofs.YtobkcedmjeidfaaDoor.base Go.Proofs.YtobkcedmjeidfaaDoor.packp Go.Proofs.YtobkcedmjeidfaaDoor.samew Go.Proofs.YtobkcedmjeidfaaDoor.wirep

structure G where
  f : Int
  t : Int
  a : Int
  s : Int
  m : M
  deriving DecidableEq
def i64 (x : Int) : Prop := -9223372036854775808 ≤ x ∧ x ≤ 9223372036854775807
def G.I (g : G) : Prop := i64 g.f ∧ i64 g.t ∧ i64 g.a ∧ i64 g.s ∧ g.m.I
def G.agg (g : G) : Value := .agg #[.int .i64 g.f, .int .i64 g.t, .int .i64 g.a, .int .i64 g.s, .int .i64 g.m.k, .int .i64 g.m.o, .int .i64 g.m.d, .int .i64 g.m.u, .int .i64 g.m.v]
def noM : M := ⟨0, 0, 0, 0, 0⟩
def G.valid (g : G) : Bool := inb g.f 0 31 && inb g.t 0 31 && !(g.f == g.t) && inb g.a 0 1099511627776 && inb g.s 0 1099511627776 && (if g.s = 0 then decide (g.m = noM) else g.m.valid)
def G.enc (g : G) : List Int := if g.valid then encAll [g.f, g.t, g.a, g.s] ++ (if g.s = 0 then [] else g.m.enc) else []
theorem G.parts {g : G} (h : g.valid = true) : (0 ≤ g.f ∧ g.f ≤ 31) ∧ (0 ≤ g.t ∧ g.t ≤ 31) ∧ g.f ≠ g.t ∧ (0 ≤ g.a ∧ g.a ≤ 1099511627776) ∧ (0 ≤ g.s ∧ g.s ≤ 1099511627776) ∧ (g.s = 0 ∧ g.m = noM ∨ g.s ≠ 0 ∧ g.m.valid = true) := by
  unfold G.valid at h
  simp only [Bool.and_eq_true] at h
  obtain ⟨⟨⟨⟨⟨h1, h2⟩, h3⟩, h4⟩, h5⟩, h6⟩ := h
  refine ⟨inb_true h1, inb_true h2, by simpa using h3, inb_true h4, inb_true h5, ?_⟩
  split at h6
  · exact .inl ⟨by assumption, of_decide_eq_true h6⟩
  · exact .inr ⟨by assumption, h6⟩
theorem G.of_parts {g : G} (h : (0 ≤ g.f ∧ g.f ≤ 31) ∧ (0 ≤ g.t ∧ g.t ≤ 31) ∧ g.f ≠ g.t ∧ (0 ≤ g.a ∧ g.a ≤ 1099511627776) ∧ (0 ≤ g.s ∧ g.s ≤ 1099511627776) ∧ (g.s = 0 ∧ g.m = noM ∨ g.s ≠ 0 ∧ g.m.valid = true)) : g.valid = true := by
  obtain ⟨h1, h2, h3, h4, h5, h6⟩ := h
  unfold G.valid
  rw [inb_of h1, inb_of h2, inb_of h4, inb_of h5, show (g.f == g.t) = false from beq_eq_false_iff_ne.2 h3]
  rcases h6 with ⟨e, h6⟩ | ⟨e, h6⟩
  · rw [if_pos e, decide_eq_true h6]; rfl
  · rw [if_neg e, h6]; rfl
theorem G.bad {g : G} (h : ¬ ((0 ≤ g.f ∧ g.f ≤ 31) ∧ (0 ≤ g.t ∧ g.t ≤ 31) ∧ g.f ≠ g.t ∧ (0 ≤ g.a ∧ g.a ≤ 1099511627776) ∧ (0 ≤ g.s ∧ g.s ≤ 1099511627776) ∧ (g.s = 0 ∧ g.m = noM ∨ g.s ≠ 0 ∧ g.m.valid = true))) : g.valid = false := by
  cases hv : g.valid
  · rfl
  · exact absurd (G.parts hv) h
theorem G.enc_none {g : G} (h : g.valid = false) : g.enc = [] := by unfold G.enc; rw [h]; rfl
theorem G.enc_bare {g : G} (h : g.valid = true) (hs : g.s = 0) : g.enc = encAll [g.f, g.t, g.a, g.s] := by unfold G.enc; rw [if_pos h, if_pos hs, List.append_nil]
theorem G.enc_told {g : G} (h : g.valid = true) (hs : g.s ≠ 0) : g.enc = encAll [g.f, g.t, g.a, g.s] ++ g.m.enc := by unfold G.enc; rw [if_pos h, if_neg hs]
theorem noM_false {k o d u v : Int} (h : k ≠ 0 ∨ o ≠ 0 ∨ d ≠ 0 ∨ u ≠ 0 ∨ v ≠ 0) : (⟨k, o, d, u, v⟩ : M) ≠ noM := by
  intro e
  injection e with e1 e2 e3 e4 e5
  omega
theorem G.enc_len {g : G} (hi : g.I) : g.enc.length ≤ 81 := by
  cases hv : g.valid
  · rw [G.enc_none hv]; decide
  · have p := G.parts hv
    have h4 : (encAll [g.f, g.t, g.a, g.s]).length ≤ 36 := encAll_len _ (by intro z hz; simp at hz; omega)
    have hm : (if g.s = 0 then ([] : List Int) else g.m.enc).length ≤ 45 := by
      split
      · simp
      · cases hmv : g.m.valid
        · rw [M.enc_none hmv]; simp
        · exact (M.enc_len hmv).2
    unfold G.enc
    rw [if_pos hv, List.length_append]
    omega
end Go.Proofs.YtobkcedmjeidfaaDoor.gramp
