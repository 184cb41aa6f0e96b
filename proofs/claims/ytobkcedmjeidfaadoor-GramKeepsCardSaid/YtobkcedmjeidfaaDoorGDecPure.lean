/- What gram's Take and Decode answer: plain laws. -/
import Derived.Test.YtobkcedmjeidfaaDoorGTakePure
import Derived.Lib.EndianBits
set_option linter.unusedVariables false
set_option linter.unusedSimpArgs false
namespace Go.Proofs.YtobkcedmjeidfaaDoor.gtake
open Go.RowKit Go.Proofs.YtobkcedmjeidfaaDoorW.PrintWords Go.Proofs.YtobkcedmjeidfaaDoor.base Go.Proofs.YtobkcedmjeidfaaDoor.mem Go.Proofs.YtobkcedmjeidfaaDoor.packp Go.Proofs.YtobkcedmjeidfaaDoor.packw Go.Proofs.YtobkcedmjeidfaaDoor.samew Go.Proofs.YtobkcedmjeidfaaDoor.wirep Go.Proofs.YtobkcedmjeidfaaDoor.wirew Go.Proofs.YtobkcedmjeidfaaDoor.takew Go.Proofs.YtobkcedmjeidfaaDoor.gramp Go.Proofs.YtobkcedmjeidfaaDoor.gramw Go.Proofs.YtobkcedmjeidfaaDoor.crcp Go.Proofs.YtobkcedmjeidfaaDoor.crcw

/-- the word of four bytes, the lowest first -/
def w4 (xs : List Int) : Int := xs.getD 0 0 + xs.getD 1 0 * 256 + xs.getD 2 0 * 65536 + xs.getD 3 0 * 16777216
theorem w4_le4 {S : Int} (h : U32 S) (r : List Int) : w4 (le4 S ++ r) = S := by
  obtain ⟨h0, h1⟩ := h
  simp [w4, le4]
  omega
theorem w4_range {xs : List Int} (h : By xs) : U32 (w4 xs) := by
  have h0 := h 0
  have h1 := h 1
  have h2 := h 2
  have h3 := h 3
  unfold w4 U32
  omega
theorem w4_bits {a b c d : Int} (ha : 0 ≤ a ∧ a ≤ 255) (hb : 0 ≤ b ∧ b ≤ 255) (hc : 0 ≤ c ∧ c ≤ 255) (hd : 0 ≤ d ∧ d ≤ 255) :
    Go.bits .or .u32 (Go.bits .or .u32 (Go.bits .or .u32 a (b * 256)) (c * 65536)) (d * 16777216) = a + b * 256 + c * 65536 + d * 16777216 := by
  simp (disch := omega) only [u32_or8, u32_or16, u32_or24]
/-- what Decode answers -/
def decG (xs : List Int) : G × Int :=
  if xs.length < 4 then (noG, 30) else
  if w4 (xs.drop (xs.length - 4)) ≠ add 0 (xs.take (xs.length - 4)) then (noG, 32) else
  if (takeG (xs.take (xs.length - 4))).e = 0 ∧ (takeG (xs.take (xs.length - 4))).n = xs.length - 4 then ((takeG (xs.take (xs.length - 4))).g, 0) else (noG, 31)
theorem dec_short {xs : List Int} (h : xs.length < 4) : decG xs = (noG, 30) := by unfold decG; rw [if_pos h]
theorem dec_sum {xs : List Int} {m : Nat} (h : xs.length = m + 4) (hs : w4 (xs.drop m) ≠ add 0 (xs.take m)) : decG xs = (noG, 32) := by
  have e : xs.length - 4 = m := by omega
  unfold decG; rw [if_neg (by omega), e, if_pos hs]
theorem dec_form {xs : List Int} {m q : Nat} {g : G} {e : Int} (h : xs.length = m + 4) (hs : w4 (xs.drop m) = add 0 (xs.take m)) (ht : takeG (xs.take m) = ⟨g, q, e⟩) (hq : ¬ (e = 0 ∧ q = m)) : decG xs = (noG, 31) := by
  have e' : xs.length - 4 = m := by omega
  unfold decG; rw [if_neg (by omega), e', if_neg (fun k => k hs), ht, if_neg hq]
theorem dec_good {xs : List Int} {m : Nat} {g : G} (h : xs.length = m + 4) (hs : w4 (xs.drop m) = add 0 (xs.take m)) (ht : takeG (xs.take m) = ⟨g, m, 0⟩) : decG xs = (g, 0) := by
  have e' : xs.length - 4 = m := by omega
  unfold decG; rw [if_neg (by omega), e', if_neg (fun k => k hs), ht, if_pos ⟨rfl, rfl⟩]

theorem valid_I {g : G} (h : g.valid = true) : g.I := by
  have p := G.parts h
  unfold G.I i64 M.I
  rcases p.2.2.2.2.2 with ⟨_, hm⟩ | ⟨_, hm⟩
  · rw [hm]
    unfold noM
    simp only
    omega
  · have hm2 := M.valid_parts hm
    omega
/-! ### there and back -/
def ToldG (xs : List Int) (R : GRes) : Prop := (R.e = 0 ∧ R.g.valid = true ∧ R.n ≤ xs.length ∧ R.g.enc = xs.take R.n) ∨ (R.g = noG ∧ R.n = 0 ∧ (R.e = 30 ∨ R.e = 31))
theorem gfin_told {xs : List Int} {g : G} {p : Nat} (he : g.valid = true → g.enc = xs.take p) (hp : p ≤ xs.length) : ToldG xs (gfin g p) := by
  cases hv : g.valid
  · rw [gfin_bad hv]; exact .inr ⟨rfl, rfl, .inr rfl⟩
  · rw [gfin_good hv]; exact .inl ⟨rfl, hv, hp, he hv⟩
theorem gend_toldG {xs : List Int} (hb : By xs) {zs : List Int} {p : Nat} (hl : zs.length = 4) (he : encAll zs = xs.take p) (hp : p ≤ xs.length) : ToldG xs (gend xs zs p) := by
  match zs, hl with
  | [a, b, c, d], _ =>
    by_cases h3 : 0 < d
    · obtain ⟨⟨m, q, e⟩, hR⟩ : ∃ R, takeM (xs.drop p) = R := ⟨_, rfl⟩
      have ht := take_told (hb.drop p)
      rw [hR] at ht
      by_cases h0 : e = 0
      · subst h0
        rw [gend_told (zs := [a, b, c, d]) h3 hR]
        rcases ht with ⟨_, hv, hq, hm⟩ | ⟨_, _, h⟩
        · rw [List.length_drop] at hq
          dsimp only at hq hm
          refine gfin_told (fun hg => ?_) (by omega)
          have hs : (mkG [a, b, c, d] m).s ≠ 0 := by show d ≠ 0; omega
          rw [G.enc_told hg hs]
          show encAll [a, b, c, d] ++ m.enc = _
          rw [he, hm, List.take_add]
        · dsimp only at h; omega
      · rw [gend_bad (zs := [a, b, c, d]) h3 hR h0]
        rcases ht with ⟨h, _⟩ | ⟨_, _, h⟩
        · exact absurd h h0
        · exact .inr ⟨rfl, rfl, h⟩
    · rw [gend_bare (zs := [a, b, c, d]) h3]
      refine gfin_told (fun hg => ?_) hp
      have hp := G.parts hg
      have hs : (mkG [a, b, c, d] ⟨0, 0, 0, 0, 0⟩).s = 0 := by
        have : 0 ≤ d := hp.2.2.2.2.1.1
        show d = 0
        omega
      rw [G.enc_bare hg hs]
      exact he
theorem gres_told {xs : List Int} (hb : By xs) : ∀ (f : Nat) (zs : List Int) (p : Nat), zs.length + f = 4 → encAll zs = xs.take p → p ≤ xs.length → ToldG xs (gres xs f zs p)
  | 0, zs, p, hf, he, hp => gend_toldG hb (by omega) he hp
  | f + 1, zs, p, hf, he, hp => by
    by_cases h0 : (dec 0 (xs.drop p)).2 = 0
    · rw [gres_short h0]
      exact .inr ⟨rfl, rfl, fault_or _⟩
    · rw [gres_step rfl rfl h0]
      obtain ⟨t0, t1, t2, t3⟩ := take_put (xs.drop p) (hb.drop p) h0
      rw [List.length_drop] at t2
      refine gres_told hb f _ _ (by simp; omega) ?_ (by omega)
      rw [encAll_snoc, he, t3, List.take_add]
theorem takeG_told {xs : List Int} (hb : By xs) : ToldG xs (takeG xs) := gres_told hb 4 [] 0 rfl (by simp [encAll]) (by omega)
theorem gres_all {xs rest : List Int} : ∀ (ws zs : List Int) (f p : Nat), xs.drop p = encAll ws ++ rest → (∀ v ∈ ws, 0 ≤ v ∧ v ≤ 9223372036854775807) → gres xs (ws.length + f) zs p = gres xs f (zs ++ ws) (p + (encAll ws).length) ∧ xs.drop (p + (encAll ws).length) = rest
  | [], zs, f, p, hd, _ => by simp [encAll] at hd ⊢; exact hd
  | v :: ws, zs, f, p, hd, hw => by
    have hv := hw v (by simp)
    have e : encAll (v :: ws) = encI v ++ encAll ws := by simp [encAll]
    rw [e, List.append_assoc] at hd
    have hp := put_take v (encAll ws ++ rest) hv.1 hv.2
    have hl := encI_len v hv.2
    rw [← hd] at hp
    have hd2 : xs.drop (p + (encI v).length) = encAll ws ++ rest := by rw [← List.drop_drop, hd, List.drop_left]
    obtain ⟨h1, h2⟩ := gres_all ws (zs ++ [v]) f (p + (encI v).length) hd2 (fun y hy => hw y (by simp [hy]))
    rw [e, List.length_append, ← Nat.add_assoc, h2]
    refine ⟨?_, rfl⟩
    rw [show (v :: ws).length + f = (ws.length + f) + 1 from by simp; omega, gres_step (congrArg Prod.fst hp) (congrArg Prod.snd hp) (by show (encI v).length ≠ 0; omega), h1]
    simp
theorem gres_cut {xs : List Int} : ∀ (ws zs : List Int) (f p j : Nat), xs.drop p = (encAll ws).take j → j < (encAll ws).length → (∀ v ∈ ws, 0 ≤ v ∧ v ≤ 9223372036854775807) → ws.length ≤ f → (gres xs f zs p).e = 30
  | [], _, _, _, _, _, hj, _, _ => by simp [encAll] at hj
  | v :: ws, zs, f, p, j, hd, hj, hw, hf => by
    obtain ⟨f, rfl⟩ : ∃ f', f = f' + 1 := ⟨f - 1, by simp at hf; omega⟩
    have hv := hw v (by simp)
    have e : encAll (v :: ws) = encI v ++ encAll ws := by simp [encAll]
    rw [e] at hd hj
    by_cases hlt : j < (encI v).length
    · rw [List.take_append_of_le_length (by omega)] at hd
      have ho := lead_take hlt
      rw [← hd] at ho
      have hl : (xs.drop p).length ≤ 8 := by
        rw [hd, List.length_take]
        have := encI_len v hv.2
        omega
      rw [gres_short (dec_open _ 0 ho)]
      exact fault_open ho hl
    · rw [List.take_append, List.take_of_length_le (by omega)] at hd
      have hp := put_take v ((encAll ws).take (j - (encI v).length)) hv.1 hv.2
      have hl := encI_len v hv.2
      rw [← hd] at hp
      have hd2 : xs.drop (p + (encI v).length) = (encAll ws).take (j - (encI v).length) := by rw [← List.drop_drop, hd, List.drop_left]
      rw [gres_step (congrArg Prod.fst hp) (congrArg Prod.snd hp) (by show (encI v).length ≠ 0; omega)]
      exact gres_cut ws (zs ++ [v]) f _ (j - (encI v).length) hd2 (by rw [List.length_append] at hj; omega) (fun y hy => hw y (by simp [hy])) (by simp at hf; omega)
theorem four_ok {g : G} (hv : g.valid = true) : ∀ v ∈ [g.f, g.t, g.a, g.s], 0 ≤ v ∧ v ≤ 9223372036854775807 := by
  have p := G.parts hv
  intro v h
  simp at h
  omega
theorem takeG_back {g : G} (hv : g.valid = true) (r : List Int) : takeG (g.enc ++ r) = ⟨g, g.enc.length, 0⟩ := by
  have p := G.parts hv
  have h4 := four_ok hv
  unfold takeG
  by_cases hs : g.s = 0
  · rw [G.enc_bare hv hs]
    obtain ⟨h1, _⟩ := gres_all (xs := encAll [g.f, g.t, g.a, g.s] ++ r) (rest := r) [g.f, g.t, g.a, g.s] [] 0 0 rfl h4
    have h1 : gres (encAll [g.f, g.t, g.a, g.s] ++ r) 4 [] 0 = _ := h1
    rw [h1]
    show gend _ [g.f, g.t, g.a, g.s] _ = _
    rw [gend_bare (by show ¬ 0 < g.s; omega)]
    have hm : g.m = ⟨0, 0, 0, 0, 0⟩ := by
      rcases p.2.2.2.2.2 with ⟨_, h⟩ | ⟨h, _⟩
      · exact h
      · exact absurd hs h
    have hg : mkG [g.f, g.t, g.a, g.s] ⟨0, 0, 0, 0, 0⟩ = g := by rw [← hm]; rfl
    rw [hg, gfin_good hv, Nat.zero_add]
  · rw [G.enc_told hv hs, List.append_assoc]
    obtain ⟨h1, h2⟩ := gres_all (xs := encAll [g.f, g.t, g.a, g.s] ++ (g.m.enc ++ r)) (rest := g.m.enc ++ r) [g.f, g.t, g.a, g.s] [] 0 0 rfl h4
    have h1 : gres (encAll [g.f, g.t, g.a, g.s] ++ (g.m.enc ++ r)) 4 [] 0 = _ := h1
    rw [h1]
    have hmv : g.m.valid = true := by
      rcases p.2.2.2.2.2 with ⟨h, _⟩ | ⟨_, h⟩
      · exact absurd h hs
      · exact h
    show gend _ [g.f, g.t, g.a, g.s] _ = _
    have hb := take_back hmv r
    rw [← h2] at hb
    rw [gend_told (by show 0 < g.s; omega) hb]
    have hg : mkG [g.f, g.t, g.a, g.s] g.m = g := rfl
    rw [hg, gfin_good hv, Nat.zero_add, List.length_append]
theorem takeG_short {g : G} (hv : g.valid = true) (i : Nat) (hi : i < g.enc.length) : (takeG (g.enc.take i)).e = 30 := by
  have p := G.parts hv
  have h4 := four_ok hv
  unfold takeG
  by_cases hs : g.s = 0
  · rw [G.enc_bare hv hs] at hi ⊢
    exact gres_cut [g.f, g.t, g.a, g.s] [] 4 0 i rfl hi h4 (by simp)
  · rw [G.enc_told hv hs] at hi ⊢
    by_cases hlt : i < (encAll [g.f, g.t, g.a, g.s]).length
    · rw [List.take_append_of_le_length (by omega)]
      exact gres_cut [g.f, g.t, g.a, g.s] [] 4 0 i rfl hlt h4 (by simp)
    · rw [List.take_append, List.take_of_length_le (by omega)]
      rw [List.length_append] at hi
      obtain ⟨h1, h2⟩ := gres_all (xs := encAll [g.f, g.t, g.a, g.s] ++ g.m.enc.take (i - (encAll [g.f, g.t, g.a, g.s]).length)) (rest := g.m.enc.take (i - (encAll [g.f, g.t, g.a, g.s]).length)) [g.f, g.t, g.a, g.s] [] 0 0 rfl h4
      have h1 : gres (encAll [g.f, g.t, g.a, g.s] ++ g.m.enc.take (i - (encAll [g.f, g.t, g.a, g.s]).length)) 4 [] 0 = _ := h1
      rw [h1]
      have hmv : g.m.valid = true := by
        rcases p.2.2.2.2.2 with ⟨h, _⟩ | ⟨_, h⟩
        · exact absurd h hs
        · exact h
      have hsh := take_short hmv (i - (encAll [g.f, g.t, g.a, g.s]).length) (by omega)
      rw [← h2] at hsh
      obtain ⟨⟨m, q, e⟩, hR⟩ : ∃ R, takeM ((encAll [g.f, g.t, g.a, g.s] ++ g.m.enc.take (i - (encAll [g.f, g.t, g.a, g.s]).length)).drop (0 + (encAll [g.f, g.t, g.a, g.s]).length)) = R := ⟨_, rfl⟩
      rw [hR] at hsh
      show (gend _ [g.f, g.t, g.a, g.s] _).e = 30
      have he : e = 30 := hsh
      subst he
      rw [gend_bad (by show 0 < g.s; omega) hR (by decide)]
/-! ### Decode -/
theorem U32_addE (xs : List Int) : U32 (add 0 xs) := U32_add 0 xs
theorem full_len (xs : List Int) : (full xs).length = xs.length + 4 := by simp [full, le4]
theorem dec_full {g : G} (hv : g.valid = true) : decG (full g.enc) = (g, 0) := by
  refine dec_good (m := g.enc.length) (full_len _) ?_ ?_
  · unfold full
    rw [List.drop_left, List.take_left]
    have := w4_le4 (U32_addE g.enc) []
    rwa [List.append_nil] at this
  · unfold full
    rw [List.take_left]
    have := takeG_back hv []
    rwa [List.append_nil] at this
theorem le4_w4 {xs : List Int} (hb : By xs) (hl : xs.length = 4) : le4 (w4 xs) = xs := by
  match xs, hl with
  | [a, b, c, d], _ =>
    have h0 := hb 0
    have h1 := hb 1
    have h2 := hb 2
    have h3 := hb 3
    simp only [List.getD_cons_zero, List.getD_cons_succ] at h0 h1 h2 h3
    simp only [le4, w4, List.getD_cons_zero, List.getD_cons_succ]
    congr 1
    · omega
    congr 1
    · omega
    congr 1
    · omega
    congr 1
    · omega
/-- what Decode tells: either nothing, or a datagram whose bytes these are -/
theorem decG_told {xs : List Int} (hb : By xs) : (decG xs).1 = noG ∧ ((decG xs).2 = 30 ∨ (decG xs).2 = 31 ∨ (decG xs).2 = 32) ∨ (decG xs).2 = 0 ∧ (decG xs).1.valid = true ∧ full (decG xs).1.enc = xs := by
  by_cases h4 : xs.length < 4
  · rw [dec_short h4]; exact .inl ⟨rfl, .inl rfl⟩
  · obtain ⟨m, hm⟩ : ∃ m, xs.length = m + 4 := ⟨xs.length - 4, by omega⟩
    by_cases hs : w4 (xs.drop m) = add 0 (xs.take m)
    · obtain ⟨⟨g, q, e⟩, hR⟩ : ∃ R, takeG (xs.take m) = R := ⟨_, rfl⟩
      by_cases hq : e = 0 ∧ q = m
      · obtain ⟨rfl, rfl⟩ := hq
        rw [dec_good hm hs hR]
        have ht := takeG_told (hb.take q)
        rw [hR] at ht
        rcases ht with ⟨_, hv, _, he⟩ | ⟨_, _, h⟩
        · refine .inr ⟨rfl, hv, ?_⟩
          show full g.enc = xs
          have he : g.enc = (xs.take q).take q := he
          rw [List.take_take, Nat.min_self] at he
          unfold full
          rw [he, ← hs, le4_w4 (hb.drop q) (by rw [List.length_drop]; omega), List.take_append_drop]
        · dsimp only at h; omega
      · rw [dec_form hm hs hR hq]; exact .inl ⟨rfl, .inr (.inl rfl)⟩
    · rw [dec_sum hm hs]; exact .inl ⟨rfl, .inr (.inr rfl)⟩
end Go.Proofs.YtobkcedmjeidfaaDoor.gtake
