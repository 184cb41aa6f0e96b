/- What is put is taken; what is taken was put; what is cut short is short: plain Lean. -/
import Derived.Test.YtobkcedmjeidfaaDoorTakePure
set_option linter.unusedVariables false
set_option linter.unusedSimpArgs false
namespace Go.Proofs.YtobkcedmjeidfaaDoor.wirep
open Go.RowKit Go.Proofs.YtobkcedmjeidfaaDoorW.PrintWords Go.Proofs.YtobkcedmjeidfaaDoor.base Go.Proofs.YtobkcedmjeidfaaDoor.packp Go.Proofs.YtobkcedmjeidfaaDoor.samew

theorem res_enc {xs zs rest : List Int} {f p : Nat} {x : Int} (hd : xs.drop p = encI x ++ rest) (hx : 0 ≤ x ∧ x ≤ 9223372036854775807) (hm : more zs = true) :
    res xs (f + 1) zs p = res xs f (zs ++ [x]) (p + (encI x).length) ∧ xs.drop (p + (encI x).length) = rest := by
  have h := put_take x rest hx.1 hx.2
  refine ⟨res_step hm (by rw [hd, h]) (by rw [hd, h]) (by have := encI_len x hx.2; omega), ?_⟩
  rw [← List.drop_drop, hd, List.drop_left]
theorem more_lt {zs : List Int} (h : zs.length < 4) : more zs = true := by unfold more; rw [decide_eq_true h]; rfl
theorem take_back {m : M} (hv : m.valid = true) (r : List Int) : takeM (m.enc ++ r) = ⟨m, m.enc.length, 0⟩ := by
  have p := M.valid_parts hv
  obtain ⟨k, o, d, u, v⟩ := m
  dsimp only at p
  by_cases hk : k = 4
  · subst hk
    rw [M.enc_tell hv rfl]
    dsimp only
    simp only [encAll, List.flatMap_cons, List.flatMap_nil, List.append_assoc, List.append_nil]
    unfold takeM
    generalize hX : encI 4 ++ (encI o ++ (encI d ++ (encI u ++ (encI v ++ r)))) = xs
    have d0 : xs.drop 0 = encI 4 ++ (encI o ++ (encI d ++ (encI u ++ (encI v ++ r)))) := hX.symm
    obtain ⟨s1, d1⟩ := res_enc (f := 4) (zs := []) d0 (by omega) (more_lt (by simp))
    obtain ⟨s2, d2⟩ := res_enc (f := 3) (zs := [4]) d1 (by omega) (more_lt (by simp))
    obtain ⟨s3, d3⟩ := res_enc (f := 2) (zs := [4, o]) d2 (by omega) (more_lt (by simp))
    obtain ⟨s4, d4⟩ := res_enc (f := 1) (zs := [4, o, d]) d3 (by omega) (more_lt (by simp))
    obtain ⟨s5, d5⟩ := res_enc (f := 0) (zs := [4, o, d, u]) d4 (by omega) (by rfl)
    rw [s1]; rw [List.nil_append, s2]; rw [List.cons_append, List.nil_append, s3]; simp only [List.cons_append, List.nil_append]; rw [s4]; simp only [List.cons_append, List.nil_append]; rw [s5]; simp only [List.cons_append, List.nil_append]
    rw [res, fin_good (show (mk [4, o, d, u, v]).valid = true from hv)]
    simp only [List.length_append]
    exact congrArg (fun n => (⟨⟨4, o, d, u, v⟩, n, 0⟩ : Res)) (by omega)
  · rw [M.enc_other hv hk]
    have hv0 : v = 0 := by omega
    subst hv0
    dsimp only
    simp only [encAll, List.flatMap_cons, List.flatMap_nil, List.append_assoc, List.append_nil]
    unfold takeM
    generalize hX : encI k ++ (encI o ++ (encI d ++ (encI u ++ r))) = xs
    have d0 : xs.drop 0 = encI k ++ (encI o ++ (encI d ++ (encI u ++ r))) := hX.symm
    obtain ⟨s1, d1⟩ := res_enc (f := 4) (zs := []) d0 (by omega) (more_lt (by simp))
    obtain ⟨s2, d2⟩ := res_enc (f := 3) (zs := [k]) d1 (by omega) (more_lt (by simp))
    obtain ⟨s3, d3⟩ := res_enc (f := 2) (zs := [k, o]) d2 (by omega) (more_lt (by simp))
    obtain ⟨s4, d4⟩ := res_enc (f := 1) (zs := [k, o, d]) d3 (by omega) (more_lt (by simp))
    have nm : more [k, o, d, u] = false := by unfold more; simp [hk]
    rw [s1]; rw [List.nil_append, s2]; rw [List.cons_append, List.nil_append, s3]; simp only [List.cons_append, List.nil_append]; rw [s4]; simp only [List.cons_append, List.nil_append]
    rw [res_fin nm, fin_good (show (mk [k, o, d, u]).valid = true from hv)]
    simp only [List.length_append]
    exact congrArg (fun n => (⟨⟨k, o, d, u, 0⟩, n, 0⟩ : Res)) (by omega)
/-- what is answered -/
def Told (xs : List Int) (R : Res) : Prop := (R.e = 0 ∧ R.m.valid = true ∧ R.n ≤ xs.length ∧ R.m.enc = xs.take R.n) ∨ (R.m = zeroM ∧ R.n = 0 ∧ (R.e = 30 ∨ R.e = 31))
theorem fault_or (xs : List Int) : fault xs = 30 ∨ fault xs = 31 := by unfold fault; split <;> simp
theorem fin_told {xs zs : List Int} {p : Nat} (hl : zs.length = 4 ∧ zs.getD 0 0 ≠ 4 ∨ zs.length = 5 ∧ zs.getD 0 0 = 4) (he : encAll zs = xs.take p) (hp : p ≤ xs.length) : Told xs (fin zs p) := by
  cases hv : (mk zs).valid
  · rw [fin_bad hv]; exact .inr ⟨rfl, rfl, .inr rfl⟩
  · rw [fin_good hv]
    refine .inl ⟨rfl, hv, hp, ?_⟩
    rcases hl with ⟨h4, h0⟩ | ⟨h5, h0⟩
    · match zs, h4 with
      | [a, b, c, d], _ => rw [M.enc_other hv h0]; exact he
    · match zs, h5 with
      | [a, b, c, d, e], _ => rw [M.enc_tell hv h0]; exact he
theorem res_told {xs : List Int} (hb : By xs) : ∀ (f : Nat) (zs : List Int) (p : Nat), zs.length + f = 5 → (zs.length = 5 → zs.getD 0 0 = 4) → encAll zs = xs.take p → p ≤ xs.length → Told xs (res xs f zs p)
  | 0, zs, p, hf, h5, he, hp => fin_told (.inr ⟨by omega, h5 (by omega)⟩) he hp
  | f + 1, zs, p, hf, h5, he, hp => by
    cases hm : more zs
    · rw [res_fin hm]
      unfold more at hm
      simp at hm
      refine fin_told (.inl ⟨by omega, ?_⟩) he hp
      exact fun h => hm.2 (by omega) (by simpa using h)
    · have hd := dec_len (xs.drop p) (hb.drop p)
      by_cases h0 : (dec 0 (xs.drop p)).2 = 0
      · rw [res_short hm h0]
        exact .inr ⟨rfl, rfl, fault_or _⟩
      · rw [res_step hm rfl rfl h0]
        obtain ⟨t0, t1, t2, t3⟩ := take_put (xs.drop p) (hb.drop p) h0
        rw [List.length_drop] at t2
        refine res_told hb f _ _ (by simp; omega) (fun h => ?_) ?_ (by omega)
        · have hz : zs.length = 4 := by simp at h; omega
          unfold more at hm
          simp [hz] at hm
          match zs, hz with
          | [a, b, c, d], _ => simpa using hm
        · rw [encAll_snoc, he, t3, List.take_add]
theorem take_told {xs : List Int} (hb : By xs) : Told xs (takeM xs) := res_told hb 5 [] 0 rfl (by simp) (by simp [encAll]) (by omega)
/-! ### what is cut short -/
theorem enc_lead (x : Nat) : ∀ j, j + 1 < (enc x).length → 128 ≤ (enc x).getD j 0 := by
  induction x using Nat.strongRecOn with
  | _ x ih =>
    intro j hj
    by_cases h : x < 128
    · rw [enc_small x h] at hj; simp at hj
    · rw [enc_big x (by omega)] at hj ⊢
      cases j with
      | zero => simp; omega
      | succ j =>
        rw [List.getD_cons_succ]
        exact ih (x / 128) (by omega) j (by simp at hj; omega)
theorem lead_take {x : Int} {j : Nat} (hj : j < (encI x).length) : ∀ y ∈ (encI x).take j, 128 ≤ y := by
  intro y hy
  obtain ⟨i, hi, rfl⟩ := List.getElem_of_mem hy
  rw [List.length_take] at hi
  have := enc_lead x.toNat i (by unfold encI at hj hi; omega)
  rw [List.getElem_take]
  have e : (encI x)[i]'(by omega) = (enc x.toNat).getD i 0 := by
    unfold encI
    simp [List.getD_eq_getElem?_getD, List.getElem?_eq_getElem (show i < (enc x.toNat).length by unfold encI at hi; omega)]
  rw [e]; exact this
theorem dec_open : ∀ (ys : List Int) (i : Nat), (∀ y ∈ ys, 128 ≤ y) → (dec i ys).2 = 0
  | [], i, _ => rfl
  | b :: r, i, h => by
    rw [dec_cons]
    split
    · rfl
    · rw [if_pos (by have := h b (by simp); omega), if_pos (dec_open r (i + 1) (fun y hy => h y (by simp [hy])))]
theorem fault_open {ys : List Int} (h : ∀ y ∈ ys, 128 ≤ y) (hl : ys.length ≤ 8) : fault ys = 30 := by
  refine fault_short (by omega) ?_
  unfold small
  rw [List.any_eq_false]
  intro y hy
  have := h y hy
  simp; omega
theorem res_cut {xs : List Int} : ∀ (ws zs : List Int) (f p j : Nat), xs.drop p = (encAll ws).take j → j < (encAll ws).length → (∀ v ∈ ws, 0 ≤ v ∧ v ≤ 9223372036854775807) → (∀ k, k < ws.length → more (zs ++ ws.take k) = true) → ws.length ≤ f → (res xs f zs p).e = 30
  | [], _, _, _, _, _, hj, _, _, _ => by simp [encAll] at hj
  | v :: ws, zs, f, p, j, hd, hj, hw, hm, hf => by
    obtain ⟨f, rfl⟩ : ∃ f', f = f' + 1 := ⟨f - 1, by simp at hf; omega⟩
    have m0 : more zs = true := by have := hm 0 (by simp); simpa using this
    have hv := hw v (by simp)
    have e : encAll (v :: ws) = encI v ++ encAll ws := by simp [encAll]
    rw [e] at hd hj
    by_cases hlt : j < (encI v).length
    · rw [List.take_append_of_le_length (by omega)] at hd
      have ho := lead_take hlt
      rw [← hd] at ho
      have hl : (xs.drop p).length ≤ 8 := by
        rw [hd, List.length_take]
        have := encI_len v hv.2
        omega
      rw [res_short m0 (dec_open _ 0 ho)]
      exact fault_open ho hl
    · rw [List.take_append, List.take_of_length_le (by omega)] at hd
      obtain ⟨s1, d1⟩ := res_enc (f := f) (zs := zs) hd hv m0
      rw [s1]
      refine res_cut ws (zs ++ [v]) f _ (j - (encI v).length) d1 (by rw [List.length_append] at hj; omega) (fun y hy => hw y (by simp [hy])) (fun k hk => ?_) (by simp at hf; omega)
      have := hm (k + 1) (by simp; omega)
      simpa using this
theorem take_short {m : M} (hv : m.valid = true) (i : Nat) (hi : i < m.enc.length) : (takeM (m.enc.take i)).e = 30 := by
  have p := M.valid_parts hv
  obtain ⟨k, o, d, u, v⟩ := m
  dsimp only at p
  unfold takeM
  by_cases hk : k = 4
  · subst hk
    rw [M.enc_tell hv rfl] at hi ⊢
    refine res_cut [4, o, d, u, v] [] 5 0 i rfl hi (fun y hy => by simp at hy; omega) (fun j hj => ?_) (by simp)
    match j, hj with
    | 0, _ => rfl
    | 1, _ => rfl
    | 2, _ => rfl
    | 3, _ => rfl
    | 4, _ => rfl
  · rw [M.enc_other hv hk] at hi ⊢
    refine res_cut [k, o, d, u] [] 5 0 i rfl hi (fun y hy => by simp at hy; omega) (fun j hj => ?_) (by simp)
    match j, hj with
    | 0, _ => rfl
    | 1, _ => rfl
    | 2, _ => rfl
    | 3, _ => rfl
end Go.Proofs.YtobkcedmjeidfaaDoor.wirep
