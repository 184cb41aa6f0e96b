/- What the bound of the second form gives: how long slices can be. -/
import Derived.Test.YtjebmlfcdnpepaaDoorRows
set_option linter.unusedVariables false
namespace Go.Proofs.YtjebmlfcdnpepaaDoor.bulks

theorem one_le {H : Type} (d : DataW H) : 1 ≤ Rows.uptoBulk d := by
  cases d with
  | lit l => cases l <;> simp [Rows.uptoBulk]
  | nil => simp [Rows.uptoBulk]
  | ptr d => simp [Rows.uptoBulk]
  | slice elems spare => simp [Rows.uptoBulk]
  | agg parts => simp [Rows.uptoBulk]
  | iface t d => simp [Rows.uptoBulk]
  | map entries => simp [Rows.uptoBulk]
  | held h => simp [Rows.uptoBulk]
theorem part_le {H : Type} {d : DataW H} {l : List (DataW H)} (h : d ∈ l) : Rows.uptoBulk d ≤ Rows.uptoBulkAll l := by
  induction l with
  | nil => cases h
  | cons x r ih =>
    simp only [Rows.uptoBulkAll]
    cases List.mem_cons.1 h with
    | inl e => subst e; omega
    | inr e => have := ih e; omega
theorem length_le {H : Type} (l : List (DataW H)) : l.length ≤ Rows.uptoBulkAll l := by
  induction l with
  | nil => simp [Rows.uptoBulkAll]
  | cons x r ih => have := one_le x; simp only [Rows.uptoBulkAll, List.length_cons]; omega
theorem bound {H : Type} {l : List (DataW H)} (hk : Rows.uptoSmall H l = true) : Rows.uptoBulkAll l ≤ 1048576 := of_decide_eq_true hk
/-- a slice, as it was opened -/
theorem slice_le {H : Type} {d : DataW H} {n : Nat} (h : d = .nil ∧ n = 0 ∨ ∃ l r : List (DataW H), d = .slice l r ∧ l.length = n) : n + 1 ≤ Rows.uptoBulk d := by
  rcases h with ⟨rfl, rfl⟩ | ⟨l, r, rfl, rfl⟩
  · simp [Rows.uptoBulk]
  · have := length_le l
    simp only [Rows.uptoBulk]
    omega
theorem rows_all {H : Type} (l : List (DataW H)) (xss : List (List Int)) (hl : l.length = xss.length)
    (h : ∀ j, j < l.length → l[j]? = some .nil ∧ (xss.getD j []).length = 0 ∨ ∃ l' r' : List (DataW H), l[j]? = some (.slice l' r') ∧ (xss.getD j []).length = l'.length) : xss.flatten.length + xss.length ≤ Rows.uptoBulkAll l := by
  induction l generalizing xss with
  | nil => cases xss with
    | nil => simp
    | cons => simp at hl
  | cons d l ih => cases xss with
    | nil => simp at hl
    | cons xs xss =>
      have h0 := h 0 (by simp)
      have h1 := ih xss (by simpa using hl) (fun j hj => by
        have := h (j + 1) (by simpa using hj)
        simpa using this)
      have h2 : xs.length + 1 ≤ Rows.uptoBulk d := by
        rcases h0 with ⟨e, e'⟩ | ⟨l', r', e, e'⟩
        · simp at e e'; subst e; subst e'; simp [Rows.uptoBulk]
        · simp at e e'
          subst e
          rw [e']
          have := length_le l'
          simp only [Rows.uptoBulk]
          omega
      simp only [List.flatten_cons, List.length_append, List.length_cons, Rows.uptoBulkAll]
      omega
/-- a slice of slices of bytes, as it was opened -/
theorem rows_le {H : Type} {d : DataW H} {n : Nat} {xss : List (List Int)} (hn : xss.length = n)
    (h : d = .nil ∧ n = 0 ∨ ∃ l r : List (DataW H), d = .slice l r ∧ l.length = n ∧ ∀ j, j < n → l[j]? = some .nil ∧ (xss.getD j []).length = 0 ∨ ∃ l' r', l[j]? = some (.slice l' r') ∧ (xss.getD j []).length = l'.length) :
    xss.flatten.length + n + 1 ≤ Rows.uptoBulk d := by
  rcases h with ⟨rfl, rfl⟩ | ⟨l, r, rfl, hl, h⟩
  · obtain rfl : xss = [] := List.eq_nil_of_length_eq_zero hn
    simp [Rows.uptoBulk]
  · have := rows_all l xss (by omega) (fun j hj => h j (by omega))
    simp only [Rows.uptoBulk]
    omega
end Go.Proofs.YtjebmlfcdnpepaaDoor.bulks
