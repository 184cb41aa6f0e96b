/- What messages are as bytes: plain laws. -/
import Derived.Test.YtobkcedmjeidfaaDoorPackPure2
set_option linter.unusedVariables false
set_option linter.unusedSimpArgs false
namespace Go.Proofs.YtobkcedmjeidfaaDoor.wirep
open Go.RowKit Go.Proofs.YtobkcedmjeidfaaDoorW.PrintWords Go.Proofs.YtobkcedmjeidfaaDoor.base Go.Proofs.YtobkcedmjeidfaaDoor.packp Go.Proofs.YtobkcedmjeidfaaDoor.samew

def inb (x lo hi : Int) : Bool := decide (lo ≤ x) && decide (x ≤ hi)
theorem inb_true {x lo hi : Int} (h : inb x lo hi = true) : lo ≤ x ∧ x ≤ hi := by unfold inb at h; simpa using h
theorem inb_of {x lo hi : Int} (h : lo ≤ x ∧ x ≤ hi) : inb x lo hi = true := by unfold inb; simpa using h
theorem inb_false {x lo hi : Int} (h : inb x lo hi = false) : x < lo ∨ hi < x := by unfold inb at h; simp at h; omega
/-- a message's five numbers -/
structure M where
  k : Int
  o : Int
  d : Int
  u : Int
  v : Int
  deriving DecidableEq
def M.I (m : M) : Prop := (-9223372036854775808 ≤ m.k ∧ m.k ≤ 9223372036854775807) ∧ (-9223372036854775808 ≤ m.o ∧ m.o ≤ 9223372036854775807) ∧ (-9223372036854775808 ≤ m.d ∧ m.d ≤ 9223372036854775807) ∧ (-9223372036854775808 ≤ m.u ∧ m.u ≤ 9223372036854775807) ∧ (-9223372036854775808 ≤ m.v ∧ m.v ≤ 9223372036854775807)
def M.agg (m : M) : Value := .agg #[.int .i64 m.k, .int .i64 m.o, .int .i64 m.d, .int .i64 m.u, .int .i64 m.v]
def M.valid (m : M) : Bool := inb m.k 1 4 && inb m.o 0 7 && inb m.d 0 31 && inb m.u 1 1099511627776 && (if m.k = 4 then inb m.v 0 31 else m.v == 0)
def M.nums (m : M) : List Int := if m.k = 4 then [m.k, m.o, m.d, m.u, m.v] else [m.k, m.o, m.d, m.u]
def M.enc (m : M) : List Int := if m.valid then encAll m.nums else []
theorem M.valid_parts {m : M} (h : m.valid = true) : (1 ≤ m.k ∧ m.k ≤ 4) ∧ (0 ≤ m.o ∧ m.o ≤ 7) ∧ (0 ≤ m.d ∧ m.d ≤ 31) ∧ (1 ≤ m.u ∧ m.u ≤ 1099511627776) ∧ (m.k = 4 ∧ 0 ≤ m.v ∧ m.v ≤ 31 ∨ m.k ≠ 4 ∧ m.v = 0) := by
  unfold M.valid at h
  simp only [Bool.and_eq_true] at h
  obtain ⟨⟨⟨⟨h1, h2⟩, h3⟩, h4⟩, h5⟩ := h
  refine ⟨inb_true h1, inb_true h2, inb_true h3, inb_true h4, ?_⟩
  split at h5
  · exact .inl ⟨by assumption, inb_true h5⟩
  · exact .inr ⟨by assumption, by simpa using h5⟩
theorem M.valid_of {m : M} (h : (1 ≤ m.k ∧ m.k ≤ 4) ∧ (0 ≤ m.o ∧ m.o ≤ 7) ∧ (0 ≤ m.d ∧ m.d ≤ 31) ∧ (1 ≤ m.u ∧ m.u ≤ 1099511627776) ∧ (m.k = 4 ∧ 0 ≤ m.v ∧ m.v ≤ 31 ∨ m.k ≠ 4 ∧ m.v = 0)) : m.valid = true := by
  obtain ⟨h1, h2, h3, h4, h5⟩ := h
  unfold M.valid
  rw [inb_of h1, inb_of h2, inb_of h3, inb_of h4]
  rcases h5 with ⟨hk, h5⟩ | ⟨hk, h5⟩
  · rw [if_pos hk, inb_of h5]; rfl
  · rw [if_neg hk, h5]; rfl
theorem M.enc_tell {m : M} (h : m.valid = true) (hk : m.k = 4) : m.enc = encAll [m.k, m.o, m.d, m.u, m.v] := by unfold M.enc M.nums; rw [if_pos h, if_pos hk]
theorem M.enc_other {m : M} (h : m.valid = true) (hk : m.k ≠ 4) : m.enc = encAll [m.k, m.o, m.d, m.u] := by unfold M.enc M.nums; rw [if_pos h, if_neg hk]
theorem M.enc_none {m : M} (h : m.valid = false) : m.enc = [] := by unfold M.enc; rw [h]; rfl
end Go.Proofs.YtobkcedmjeidfaaDoor.wirep
