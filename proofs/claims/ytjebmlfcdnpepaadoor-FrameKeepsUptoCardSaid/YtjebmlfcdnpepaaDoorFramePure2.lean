/- What is true of frames one behind the other: plain laws. -/
import Derived.Test.YtjebmlfcdnpepaaDoorFrameMem
set_option linter.unusedVariables false
set_option linter.unusedSimpArgs false
namespace Go.Proofs.YtjebmlfcdnpepaaDoor.framen
open Go.RowKit Go.Shelf Go.Proofs.YtjebmlfcdnpepaaDoorW.PrintWords Go.Proofs.YtjebmlfcdnpepaaDoor.base Go.Proofs.YtjebmlfcdnpepaaDoor.mem Go.Proofs.YtjebmlfcdnpepaaDoor.crcp Go.Proofs.YtjebmlfcdnpepaaDoor.crcw Go.Proofs.YtjebmlfcdnpepaaDoor.samew Go.Proofs.YtjebmlfcdnpepaaDoor.keep Go.Proofs.YtjebmlfcdnpepaaDoor.framep Go.Proofs.YtjebmlfcdnpepaaDoor.framew Go.Proofs.YtjebmlfcdnpepaaDoor.frameit Go.Proofs.YtjebmlfcdnpepaaDoor.framem Go.Proofs.YtjebmlfcdnpepaaDoor.framel Go.Proofs.YtjebmlfcdnpepaaDoor.framea Go.Proofs.YtjebmlfcdnpepaaDoor.framer

/-! ### one frame behind the other, without places -/
def fp : Nat → List Int → List (List Int)
  | 0, _ => []
  | f + 1, xs => if firstN xs = 0 then [] else (xs.drop 8).take (firstN xs - 8) :: fp f (xs.drop (firstN xs))
def fe : Nat → List Int → Nat
  | 0, _ => 0
  | f + 1, xs => if firstN xs = 0 then 0 else firstN xs + fe f (xs.drop (firstN xs))
theorem firstN_pos {xs : List Int} (h : firstN xs ≠ 0) : 8 ≤ firstN xs ∧ firstN xs ≤ xs.length := ⟨firstN_ge _ h, firstN_le _⟩
theorem fp_fuel : ∀ (f g : Nat) (xs : List Int), xs.length ≤ f → xs.length ≤ g → fp f xs = fp g xs ∧ fe f xs = fe g xs := by
  intro f
  induction f with
  | zero =>
    intro g xs hf hg
    obtain rfl : xs = [] := List.eq_nil_of_length_eq_zero (by omega)
    cases g with
    | zero => exact ⟨rfl, rfl⟩
    | succ g => exact ⟨rfl, rfl⟩
  | succ f ih =>
    intro g xs hf hg
    by_cases h : firstN xs = 0
    · cases g with
      | zero => simp [fp, fe, h]
      | succ g => simp [fp, fe, h]
    · obtain ⟨h1, h2⟩ := firstN_pos h
      cases g with
      | zero => omega
      | succ g =>
        obtain ⟨e1, e2⟩ := ih g (xs.drop (firstN xs)) (by rw [List.length_drop]; omega) (by rw [List.length_drop]; omega)
        simp only [fp, fe, if_neg h, e1, e2]
        exact ⟨trivial, trivial⟩
def P (xs : List Int) : List (List Int) := fp xs.length xs
def E (xs : List Int) : Nat := fe xs.length xs
theorem P_stop {xs : List Int} (h : firstN xs = 0) : P xs = [] ∧ E xs = 0 := by
  unfold P E
  cases xs.length with
  | zero => exact ⟨rfl, rfl⟩
  | succ f => simp [fp, fe, h]
theorem P_next {xs : List Int} (h : firstN xs ≠ 0) : P xs = (xs.drop 8).take (firstN xs - 8) :: P (xs.drop (firstN xs)) ∧ E xs = firstN xs + E (xs.drop (firstN xs)) := by
  obtain ⟨h1, h2⟩ := firstN_pos h
  obtain ⟨f, hf⟩ : ∃ f, xs.length = f + 1 := ⟨xs.length - 1, by omega⟩
  obtain ⟨e1, e2⟩ := fp_fuel f (xs.drop (firstN xs)).length (xs.drop (firstN xs)) (by rw [List.length_drop]; omega) (Nat.le_refl _)
  unfold P E
  rw [hf]
  simp only [fp, fe, if_neg h, e1, e2]
  exact ⟨trivial, trivial⟩
/-- the last place behind p -/
def endP (p : Nat) (L : List (Nat × Nat)) : Nat := match L.getLast? with | none => p | some x => x.1 + 8 + x.2
theorem endL_P (L : List (Nat × Nat)) : endL L = endP 0 L := rfl
theorem fitems_fp : ∀ (f p : Nat) (xs ys : List Int), ys = xs.drop p → (fitems f p ys).map (payK xs) = fp f ys ∧ endP p (fitems f p ys) = p + fe f ys := by
  intro f
  induction f with
  | zero => intro p xs ys h; exact ⟨rfl, rfl⟩
  | succ f ih =>
    intro p xs ys h
    by_cases h0 : firstN ys = 0
    · rw [fitems_end _ _ _ h0]; simp [fp, fe, h0, endP]
    · rw [fitems_next _ _ _ h0]
      obtain ⟨e1, e2⟩ := ih (p + firstN ys) xs (ys.drop (firstN ys)) (by rw [h, List.drop_drop])
      have hg := firstN_ge ys h0
      refine ⟨?_, ?_⟩
      · simp only [List.map_cons, fp, if_neg h0, e1]
        congr 1
        unfold payK
        rw [h, List.drop_drop]
      · simp only [fe, if_neg h0]
        rw [← Nat.add_assoc, ← e2]
        unfold endP
        cases hl : fitems f (p + firstN ys) (ys.drop (firstN ys)) with
        | nil => simp; omega
        | cons z zs => simp [List.getLast?_cons]
theorem pays_P (xs : List Int) : pays xs = P xs := (fitems_fp xs.length 0 xs xs rfl).1
theorem end_E (xs : List Int) : endL (flist xs) = E xs := by
  have := (fitems_fp xs.length 0 xs xs rfl).2
  rw [endL_P]
  unfold flist
  rw [this]
  unfold E
  omega
theorem P_len : ∀ (n : Nat) (xs : List Int), xs.length ≤ n → (P xs).length * 8 ≤ xs.length := by
  intro n xs _
  rw [← pays_P, pays_len]
  exact flist_len xs
/-! ### a frame, and what stands behind -/
theorem P_fenc (p more : List Int) (h : p.length ≤ 1048576) : P (fenc p ++ more) = p :: P more ∧ E (fenc p ++ more) = 8 + p.length + E more := by
  have e := firstN_fenc p more h
  obtain ⟨h1, h2⟩ := P_next (xs := fenc p ++ more) (by omega)
  rw [e, List.drop_left' (fenc_len p)] at h1 h2
  refine ⟨?_, h2⟩
  rw [h1]
  have : (fenc p ++ more).drop 8 = p ++ more := rfl
  rw [this, show 8 + p.length - 8 = p.length from by omega, List.take_left]
/-- frames one behind the other -/
def fencs (ps : List (List Int)) : List Int := ps.flatMap fenc
theorem fencs_snoc (ps : List (List Int)) (p : List Int) : fencs (ps ++ [p]) = fencs ps ++ fenc p := by simp [fencs]
theorem fencs_len (ps : List (List Int)) : (fencs ps).length = ps.length * 8 + ps.flatten.length := by
  induction ps with
  | nil => rfl
  | cons p ps ih => simp only [fencs, List.flatMap_cons, List.length_append, List.flatten_cons, List.length_cons] at ih ⊢; rw [ih, fenc_len]; omega
theorem P_fencs (ps : List (List Int)) (more : List Int) (h : ∀ p ∈ ps, p.length ≤ 1048576) : P (fencs ps ++ more) = ps ++ P more ∧ E (fencs ps ++ more) = (fencs ps).length + E more := by
  induction ps with
  | nil => exact ⟨rfl, by simp [fencs]⟩
  | cons p ps ih =>
    obtain ⟨e1, e2⟩ := ih fun q hq => h q (by simp [hq])
    obtain ⟨e3, e4⟩ := P_fenc p (fencs ps ++ more) (h p (by simp))
    have hs : fencs (p :: ps) ++ more = fenc p ++ (fencs ps ++ more) := by simp [fencs]
    rw [hs, e3, e4, e1, e2]
    refine ⟨rfl, ?_⟩
    have : fencs (p :: ps) = fenc p ++ fencs ps := by simp [fencs]
    rw [this, List.length_append, fenc_len]
    omega
/-! ### a beginning -/
theorem w4_take {xs : List Int} {k : Nat} (h : 4 ≤ k) : w4 (xs.take k) = w4 xs := by
  unfold w4
  simp only [List.getD_eq_getElem?_getD, List.getElem?_take, if_pos (show 0 < k by omega), if_pos (show 1 < k by omega), if_pos (show 2 < k by omega), if_pos (show 3 < k by omega)]
theorem firstN_take {xs : List Int} {k : Nat} (hk : k ≤ xs.length) (h : firstN (xs.take k) ≠ 0) : firstN xs = firstN (xs.take k) := by
  have hl : (xs.take k).length = k := by rw [List.length_take]; omega
  have h8 := firstN_pos h
  rw [hl] at h8
  have hw : w4 (xs.take k) = w4 xs := w4_take (by omega)
  have e1 : (xs.take k).take 4 = xs.take 4 := by rw [List.take_take]; congr 1; omega
  have e3 : w4 ((xs.take k).drop 4) = w4 (xs.drop 4) := by rw [List.drop_take]; exact w4_take (by omega)
  have hR : firstN (xs.take k) = if 1048576 < (w4 xs).toNat ∨ k - 8 < (w4 xs).toNat ∨ parts 0 [xs.take 4, ((xs.take k).drop 8).take (w4 xs).toNat] ≠ w4 (xs.drop 4) then 0 else 8 + (w4 xs).toNat := by
    conv => lhs; unfold firstN
    rw [hl, hw, e1, e3, if_neg (by omega)]
  have hL : firstN xs = if 1048576 < (w4 xs).toNat ∨ xs.length - 8 < (w4 xs).toNat ∨ parts 0 [xs.take 4, (xs.drop 8).take (w4 xs).toNat] ≠ w4 (xs.drop 4) then 0 else 8 + (w4 xs).toNat := by
    conv => lhs; unfold firstN
    rw [if_neg (by omega)]
  generalize (w4 xs).toNat = v at hR hL
  rw [hR] at h ⊢
  by_cases hc : 1048576 < v ∨ k - 8 < v ∨ parts 0 [xs.take 4, ((xs.take k).drop 8).take v] ≠ w4 (xs.drop 4)
  · rw [if_pos hc] at h; exact absurd rfl h
  · have h1 : ¬ 1048576 < v := fun e => hc (.inl e)
    have h2 : ¬ k - 8 < v := fun e => hc (.inr (.inl e))
    have e2 : ((xs.take k).drop 8).take v = (xs.drop 8).take v := by rw [List.drop_take, List.take_take]; congr 1; omega
    rw [if_neg hc, hL, if_neg]
    rw [e2] at hc
    exact fun e => hc (by
      rcases e with e | e | e
      · exact .inl e
      · exact absurd e (by omega)
      · exact .inr (.inr e))
theorem heads : ∀ (n : Nat) (xs : List Int) (k : Nat), xs.length ≤ n → k ≤ xs.length → P (xs.take k) <+: P xs ∧ E (xs.take k) ≤ k ∧ E (xs.take k) ≤ E xs := by
  intro n
  induction n with
  | zero =>
    intro xs k hn hk
    obtain rfl : xs = [] := List.eq_nil_of_length_eq_zero (by omega)
    simp only [List.take_nil]
    exact ⟨List.prefix_refl _, Nat.zero_le _, Nat.le_refl _⟩
  | succ n ih =>
    intro xs k hn hk
    by_cases h0 : firstN (xs.take k) = 0
    · obtain ⟨e1, e2⟩ := P_stop h0
      rw [e1, e2]
      exact ⟨List.nil_prefix, Nat.zero_le _, Nat.zero_le _⟩
    · have hj := firstN_take hk h0
      have hl : (xs.take k).length = k := by rw [List.length_take]; omega
      have h8 := firstN_pos h0
      rw [hl] at h8
      obtain ⟨e1, e2⟩ := P_next h0
      obtain ⟨e3, e4⟩ := P_next (xs := xs) (by rw [hj]; exact h0)
      rw [e1, e2, e3, e4, hj]
      generalize firstN (xs.take k) = j at h8
      have ed : (xs.take k).drop j = (xs.drop j).take (k - j) := List.drop_take ..
      have ep : ((xs.take k).drop 8).take (j - 8) = (xs.drop 8).take (j - 8) := by rw [List.drop_take, List.take_take]; congr 1; omega
      obtain ⟨i1, i2, i3⟩ := ih (xs.drop j) (k - j) (by rw [List.length_drop]; omega) (by rw [List.length_drop]; omega)
      rw [ed, ep]
      exact ⟨List.cons_prefix_cons.2 ⟨rfl, i1⟩, by omega, by omega⟩
theorem E_le (xs : List Int) : E xs ≤ xs.length := by
  have := (heads xs.length xs xs.length (Nat.le_refl _) (Nat.le_refl _)).2.1
  rwa [List.take_length] at this
/-- a frame cut short is none -/
theorem torn (p : List Int) (k : Nat) (h : p.length ≤ 1048576) (hk : k < (fenc p).length) : P ((fenc p).take k) = [] ∧ E ((fenc p).take k) = 0 := by
  refine P_stop ?_
  by_cases h0 : firstN ((fenc p).take k) = 0
  · exact h0
  · have h1 := firstN_take (Nat.le_of_lt hk) h0
    have h2 := firstN_fenc p [] h
    rw [List.append_nil] at h2
    have h3 := firstN_le ((fenc p).take k)
    rw [List.length_take] at h3
    rw [fenc_len] at hk
    omega
end Go.Proofs.YtjebmlfcdnpepaaDoor.framen
