/- Unlike messages have unlike bytes: plain Lean. -/
import Derived.Test.YtobkcedmjeidfaaDoorWirePure
set_option linter.unusedVariables false
set_option linter.unusedSimpArgs false
namespace Go.Proofs.YtobkcedmjeidfaaDoor.wirep
open Go.RowKit Go.Proofs.YtobkcedmjeidfaaDoorW.PrintWords Go.Proofs.YtobkcedmjeidfaaDoor.base Go.Proofs.YtobkcedmjeidfaaDoor.packp Go.Proofs.YtobkcedmjeidfaaDoor.samew

theorem encI_free {x y : Int} {r s : List Int} (hx : 0 ≤ x ∧ x ≤ 9223372036854775807) (hy : 0 ≤ y ∧ y ≤ 9223372036854775807) (h : encI x ++ r = encI y ++ s) : x = y ∧ r = s := by
  have h1 : x = y := by
    have := enc_free x.toNat y.toNat r s (by omega) (by omega) h
    omega
  subst h1
  exact ⟨rfl, List.append_cancel_left h⟩
theorem M.free {a b : M} (ha : a.valid = true) (hb : b.valid = true) {r s : List Int} (h : a.enc ++ r = b.enc ++ s) : a = b := by
  have pa := M.valid_parts ha
  have pb := M.valid_parts hb
  obtain ⟨a0, a1, a2, a3, a4⟩ := a
  obtain ⟨b0, b1, b2, b3, b4⟩ := b
  dsimp only at pa pb
  by_cases ka : a0 = 4
  · by_cases kb : b0 = 4
    · rw [M.enc_tell ha ka, M.enc_tell hb kb] at h
      simp only [encAll, List.flatMap_cons, List.flatMap_nil, List.append_assoc] at h
      obtain ⟨e0, h⟩ := encI_free (by omega) (by omega) h
      obtain ⟨e1, h⟩ := encI_free (by omega) (by omega) h
      obtain ⟨e2, h⟩ := encI_free (by omega) (by omega) h
      obtain ⟨e3, h⟩ := encI_free (by omega) (by omega) h
      obtain ⟨e4, h⟩ := encI_free (by omega) (by omega) h
      rw [e0, e1, e2, e3, e4]
    · rw [M.enc_tell ha ka, M.enc_other hb kb] at h
      simp only [encAll, List.flatMap_cons, List.flatMap_nil, List.append_assoc] at h
      obtain ⟨e0, h⟩ := encI_free (by omega) (by omega) h
      omega
  · by_cases kb : b0 = 4
    · rw [M.enc_other ha ka, M.enc_tell hb kb] at h
      simp only [encAll, List.flatMap_cons, List.flatMap_nil, List.append_assoc] at h
      obtain ⟨e0, h⟩ := encI_free (by omega) (by omega) h
      omega
    · rw [M.enc_other ha ka, M.enc_other hb kb] at h
      simp only [encAll, List.flatMap_cons, List.flatMap_nil, List.append_assoc] at h
      obtain ⟨e0, h⟩ := encI_free (by omega) (by omega) h
      obtain ⟨e1, h⟩ := encI_free (by omega) (by omega) h
      obtain ⟨e2, h⟩ := encI_free (by omega) (by omega) h
      obtain ⟨e3, h⟩ := encI_free (by omega) (by omega) h
      have e4 : a4 = b4 := by omega
      rw [e0, e1, e2, e3, e4]
theorem M.pre {a b : M} (ha : a.valid = true) (hb : b.valid = true) (n : Nat) (hn : n = min a.enc.length b.enc.length) (h : a.enc.take n = b.enc.take n) : a = b := by
  rcases Nat.le_total a.enc.length b.enc.length with c | c
  · rw [List.take_of_length_le (by omega)] at h
    refine M.free ha hb (r := b.enc.drop n) (s := []) ?_
    rw [h, List.take_append_drop, List.append_nil]
  · rw [List.take_of_length_le (l := b.enc) (by omega)] at h
    refine M.free ha hb (r := []) (s := a.enc.drop n) ?_
    rw [← h, List.take_append_drop, List.append_nil]
theorem M.unlike {a b : M} (ha : a.valid = true) (hb : b.valid = true) (n : Nat) (hn : n = min a.enc.length b.enc.length) (h : a ≠ b) : eqL (a.enc.take n) (b.enc.take n) = false :=
  eqL_ne fun e => h (M.pre ha hb n hn e)
theorem M.enc_len {m : M} (h : m.valid = true) : 4 ≤ m.enc.length ∧ m.enc.length ≤ 45 := by
  have p := M.valid_parts h
  by_cases hk : m.k = 4
  · rw [M.enc_tell h hk]
    simp only [encAll, List.flatMap_cons, List.flatMap_nil, List.length_append, List.length_nil]
    have h0 := encI_len m.k (by omega)
    have h1 := encI_len m.o (by omega)
    have h2 := encI_len m.d (by omega)
    have h3 := encI_len m.u (by omega)
    have h4 := encI_len m.v (by omega)
    omega
  · rw [M.enc_other h hk]
    simp only [encAll, List.flatMap_cons, List.flatMap_nil, List.length_append, List.length_nil]
    have h0 := encI_len m.k (by omega)
    have h1 := encI_len m.o (by omega)
    have h2 := encI_len m.d (by omega)
    have h3 := encI_len m.u (by omega)
    omega
end Go.Proofs.YtobkcedmjeidfaaDoor.wirep
