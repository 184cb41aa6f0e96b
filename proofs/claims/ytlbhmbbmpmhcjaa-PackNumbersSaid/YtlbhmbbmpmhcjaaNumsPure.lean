/- The numbers that stand in bytes, each with its place. -/
import Derived.Test.YtlbhmbbmpmhcjaaPackPure2
set_option linter.unusedVariables false
set_option linter.unusedSimpArgs false
namespace Go.Proofs.Ytlbhmbbmpmhcjaa.numsp
open Go.RowKit Go.Proofs.YtlbhmbbmpmhcjaaW.PrintWords Go.Proofs.Ytlbhmbbmpmhcjaa.base Go.Proofs.Ytlbhmbbmpmhcjaa.packp

def items : Nat → Nat → List Int → List (Nat × Int)
  | 0, _, _ => []
  | f + 1, p, xs => if (dec 0 xs).2 = 0 then [] else (p, (dec 0 xs).1) :: items f (p + (dec 0 xs).2) (xs.drop (dec 0 xs).2)
def nums (xs : List Int) : List (Nat × Int) := items xs.length 0 xs
theorem items_end (f p : Nat) (xs : List Int) (h : (dec 0 xs).2 = 0) : items f p xs = [] := by
  cases f with
  | zero => rfl
  | succ f => rw [items, if_pos h]
theorem items_next (f p : Nat) (xs : List Int) (h : (dec 0 xs).2 ≠ 0) : items (f + 1) p xs = (p, (dec 0 xs).1) :: items f (p + (dec 0 xs).2) (xs.drop (dec 0 xs).2) := by rw [items, if_neg h]
theorem items_fuel (f : Nat) : ∀ (p : Nat) (xs : List Int) (g : Nat), By xs → xs.length ≤ f → xs.length ≤ g → items f p xs = items g p xs := by
  induction f with
  | zero =>
    intro p xs g hb h _
    have : xs = [] := List.eq_nil_of_length_eq_zero (by omega)
    subst this
    rw [items_end _ _ _ rfl, items_end _ _ _ rfl]
  | succ f ih =>
    intro p xs g hb h hg
    by_cases h0 : (dec 0 xs).2 = 0
    · rw [items_end _ _ _ h0, items_end _ _ _ h0]
    · have hl := dec_len xs hb
      obtain ⟨g', rfl⟩ : ∃ g', g = g' + 1 := ⟨g - 1, by omega⟩
      rw [items_next _ _ _ h0, items_next _ _ _ h0, ih _ _ g' (hb.drop _) (by rw [List.length_drop]; omega) (by rw [List.length_drop]; omega)]
/-- chain of numbers that were put -/
def chain : Nat → List Int → List (Nat × Int)
  | _, [] => []
  | p, z :: zs => (p, max z 0) :: chain (p + (encI z).length) zs
theorem chain_len (zs : List Int) : ∀ p, (chain p zs).length = zs.length := by
  induction zs with
  | nil => intro p; rfl
  | cons z zs ih => intro p; simp [chain, ih]
theorem chain_at (zs : List Int) : ∀ (p k : Nat) (h : k < zs.length), (chain p zs)[k]? = some (p + (encAll (zs.take k)).length, max (zs.getD k 0) 0) := by
  induction zs with
  | nil => intro p k h; simp at h
  | cons z zs ih =>
    intro p k h
    cases k with
    | zero => simp [chain, encAll]
    | succ k =>
      rw [chain, List.getElem?_cons_succ, ih _ k (by simpa using h)]
      simp [encAll, Nat.add_assoc]
theorem encI_max (z : Int) : encI z = encI (max z 0) := by unfold encI; rw [show (max z 0).toNat = z.toNat from by omega]
theorem dec_put (z : Int) (r : List Int) (hz : z ≤ 9223372036854775807) : dec 0 (encI z ++ r) = (max z 0, (encI z).length) := by
  rw [encI_max z, put_take (max z 0) r (by omega) (by omega)]
theorem items_chain (zs : List Int) : ∀ (f p : Nat) (r : List Int), (∀ z ∈ zs, z ≤ 9223372036854775807) → zs.length ≤ f → items f p (encAll zs ++ r) = chain p zs ++ items (f - zs.length) (p + (encAll zs).length) r := by
  induction zs with
  | nil => intro f p r _ _; simp [chain, encAll]
  | cons z zs ih =>
    intro f p r hz hf
    obtain ⟨f', rfl⟩ : ∃ f', f = f' + 1 := ⟨f - 1, by simp at hf; omega⟩
    have e : encAll (z :: zs) ++ r = encI z ++ (encAll zs ++ r) := by simp [encAll]
    have hd := dec_put z (encAll zs ++ r) (hz z (by simp))
    have hn := (encI_len z (hz z (by simp))).1
    rw [e, items_next _ _ _ (by rw [hd]; dsimp only; omega), hd]
    dsimp only
    rw [List.drop_left, ih f' _ r (fun y hy => hz y (by simp [hy])) (by simp at hf; omega), chain]
    simp [encAll, Nat.add_assoc]
theorem encAll_ge (zs : List Int) : zs.length ≤ (encAll zs).length := by
  induction zs with
  | nil => simp
  | cons z zs ih =>
    have : encAll (z :: zs) = encI z ++ encAll zs := by simp [encAll]
    rw [this, List.length_append, List.length_cons]
    have h1 : 1 ≤ (encI z).length := by
      rcases Nat.eq_zero_or_pos (encI z).length with h | h
      · exact absurd (List.eq_nil_of_length_eq_zero h) (enc_ne _)
      · exact h
    omega
theorem nums_chain (zs r : List Int) (hz : ∀ z ∈ zs, z ≤ 9223372036854775807) : ∃ t, nums (encAll zs ++ r) = chain 0 zs ++ t := by
  unfold nums
  rw [items_chain zs _ _ r hz (by rw [List.length_append]; have := encAll_ge zs; omega)]
  exact ⟨_, rfl⟩
end Go.Proofs.Ytlbhmbbmpmhcjaa.numsp
