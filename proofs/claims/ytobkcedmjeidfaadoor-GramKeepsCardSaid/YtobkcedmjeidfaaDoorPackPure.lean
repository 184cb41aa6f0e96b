/- The plain laws of numbers as bytes. No program is in sight. -/
import Derived.Laws.BitsLemmas
import Derived.Test.YtobkcedmjeidfaaDoorBase
set_option linter.unusedVariables false
set_option linter.unusedSimpArgs false
namespace Go.Proofs.YtobkcedmjeidfaaDoor.packp
open Go Go.Proofs.YtobkcedmjeidfaaDoor.base

/-! ### put -/
def enc (x : Nat) : List Int := if h : x < 128 then [(x : Int)] else ((x % 128 + 128 : Nat) : Int) :: enc (x / 128)
termination_by x
decreasing_by omega
theorem enc_small (x : Nat) (h : x < 128) : enc x = [(x : Int)] := by rw [enc, dif_pos h]
theorem enc_big (x : Nat) (h : 128 ≤ x) : enc x = ((x % 128 + 128 : Nat) : Int) :: enc (x / 128) := by rw [enc, dif_neg (by omega)]
def encI (x : Int) : List Int := enc x.toNat
def encAll (zs : List Int) : List Int := zs.flatMap encI
theorem enc_ne (x : Nat) : enc x ≠ [] := by
  rcases Nat.lt_or_ge x 128 with h | h
  · rw [enc_small x h]; simp
  · rw [enc_big x h]; simp
theorem enc_by (x : Nat) : By (enc x) := by
  induction x using Nat.strongRecOn with
  | _ x ih =>
    rcases Nat.lt_or_ge x 128 with h | h
    · rw [enc_small x h]
      exact By_of _ fun y hy => by simp at hy; omega
    · rw [enc_big x h]
      refine By_of _ fun y hy => ?_
      rcases List.mem_cons.1 hy with rfl | hy
      · omega
      · exact (ih (x / 128) (by omega)).mem y hy
theorem enc_len (k x : Nat) (h : x < 128 ^ (k + 1)) : (enc x).length ≤ k + 1 := by
  induction k generalizing x with
  | zero => rw [enc_small x (by simpa using h)]; simp
  | succ k ih =>
    rcases Nat.lt_or_ge x 128 with c | c
    · rw [enc_small x c]; simp
    · rw [enc_big x c, List.length_cons]
      have := ih (x / 128) (by rw [Nat.div_lt_iff_lt_mul (by decide)]; rwa [Nat.pow_succ] at h)
      omega
theorem enc_len9 (x : Nat) (h : x < 9223372036854775808) : 1 ≤ (enc x).length ∧ (enc x).length ≤ 9 := by
  refine ⟨?_, enc_len 8 x (Nat.lt_of_lt_of_le h (by decide))⟩
  have := enc_ne x
  cases e : enc x with
  | nil => exact absurd e this
  | cons => simp
theorem encAll_by (zs : List Int) : By (encAll zs) := by
  unfold encAll
  refine By_of _ fun y hy => ?_
  obtain ⟨z, _, hz⟩ := List.mem_flatMap.1 hy
  exact (enc_by _).mem y hz
theorem encAll_len (zs : List Int) (h : ∀ z ∈ zs, z ≤ 9223372036854775807) : (encAll zs).length ≤ 9 * zs.length := by
  induction zs with
  | nil => simp [encAll]
  | cons z zs ih =>
    have h1 := (enc_len9 z.toNat (by have := h z (by simp); omega)).2
    have h2 := ih (fun y hy => h y (List.mem_cons_of_mem _ hy))
    have e : encAll (z :: zs) = encI z ++ encAll zs := by simp [encAll]
    rw [e, List.length_append, List.length_cons]
    unfold encI
    omega
theorem encAll_snoc (zs : List Int) (z : Int) : encAll (zs ++ [z]) = encAll zs ++ encI z := by simp [encAll]

/-! ### the walk's spelling of a byte -/
theorem bits_or_128 (x : Int) (h : 0 ≤ x) (h1 : x ≤ 9223372036854775807) : Go.bits .or .i64 (Go.bits .and .i64 x 127) 128 = x % 128 + 128 := by
  have wr : ∀ n : Int, 0 ≤ n → n < 2 ^ 63 → IntKind.i64.wrap n = n := fun n h0 h1 => by rw [IntKind.wrap_i64]; omega
  have e1 : Go.bits .and .i64 x 127 = x % 128 := bits_mask .i64 63 (by decide) wr 7 (by decide) x h (by omega)
  rw [e1]
  obtain ⟨a, ha⟩ := Int.eq_ofNat_of_zero_le (show 0 ≤ x % 128 by omega)
  have hlt : a < 128 := by omega
  rw [ha]
  have e2 := (bits_nat .i64 63 (by decide) wr a 128 (by omega) (by decide)).2
  rw [show ((128 : Nat) : Int) = 128 from rfl] at e2
  rw [e2]
  have e3 : a ||| 128 = a + 128 := by
    have := Nat.two_pow_add_eq_or_of_lt (i := 7) (b := a) (by simpa using hlt) 1
    rw [Nat.or_comm]
    rw [show 2 ^ 7 * 1 = 128 from rfl] at this
    omega
  rw [e3]
  omega

/-! ### take -/
def dec (i : Nat) : List Int → Int × Nat
  | [] => (0, 0)
  | b :: r => if 9 ≤ i then (0, 0) else if 127 < b then (if (dec (i + 1) r).2 = 0 then (0, 0) else (b - 128 + 128 * (dec (i + 1) r).1, (dec (i + 1) r).2 + 1)) else if b = 0 ∧ 0 < i then (0, 0) else (b, 1)
theorem dec_zero (i : Nat) (xs : List Int) (h : (dec i xs).2 = 0) : dec i xs = (0, 0) := by
  cases xs with
  | nil => rfl
  | cons b r =>
    have e : dec i (b :: r) = if 9 ≤ i then (0, 0) else if 127 < b then (if (dec (i + 1) r).2 = 0 then (0, 0) else (b - 128 + 128 * (dec (i + 1) r).1, (dec (i + 1) r).2 + 1)) else if b = 0 ∧ 0 < i then (0, 0) else (b, 1) := rfl
    rw [e] at h ⊢
    by_cases h9 : 9 ≤ i
    · rw [if_pos h9]
    · rw [if_neg h9] at h ⊢
      by_cases hb : 127 < b
      · rw [if_pos hb] at h ⊢
        by_cases h2 : (dec (i + 1) r).2 = 0
        · rw [if_pos h2]
        · rw [if_neg h2] at h; simp at h
      · rw [if_neg hb] at h ⊢
        by_cases h3 : b = 0 ∧ 0 < i
        · rw [if_pos h3]
        · rw [if_neg h3] at h; simp at h
/-- what the first i bytes and the rest come to -/
def fin (x : Int) (i : Nat) (p : Int × Nat) : Int × Nat := if p.2 = 0 then (0, 0) else (x + 128 ^ i * p.1, p.2 + i)
theorem fin_start (xs : List Int) : fin 0 0 (dec 0 xs) = dec 0 xs := by
  unfold fin
  by_cases h : (dec 0 xs).2 = 0
  · rw [if_pos h, dec_zero 0 xs h]
  · rw [if_neg h]; simp
theorem drop_cons (xs : List Int) (i : Nat) (h : i < xs.length) : xs.drop i = xs.getD i 0 :: xs.drop (i + 1) := by
  rw [List.drop_eq_getElem_cons h]; simp [List.getD_eq_getElem?_getD, List.getElem?_eq_getElem h]
theorem dec_cons (i : Nat) (b : Int) (r : List Int) : dec i (b :: r) = if 9 ≤ i then (0, 0) else if 127 < b then (if (dec (i + 1) r).2 = 0 then (0, 0) else (b - 128 + 128 * (dec (i + 1) r).1, (dec (i + 1) r).2 + 1)) else if b = 0 ∧ 0 < i then (0, 0) else (b, 1) := rfl
theorem fin_zero (x : Int) (i : Nat) : fin x i (0, 0) = (0, 0) := rfl
theorem fin_succ (x y : Int) (i n : Nat) : fin x i (y, n + 1) = (x + 128 ^ i * y, n + 1 + i) := by unfold fin; rw [if_neg (by simp)]
theorem fin_more (xs : List Int) (x : Int) (i : Nat) (h : i < xs.length) (h9 : i < 9) (hb : 127 < xs.getD i 0) : fin x i (dec i (xs.drop i)) = fin (x + 128 ^ i * (xs.getD i 0 - 128)) (i + 1) (dec (i + 1) (xs.drop (i + 1))) := by
  have e : dec i (xs.drop i) = if (dec (i + 1) (xs.drop (i + 1))).2 = 0 then (0, 0) else (xs.getD i 0 - 128 + 128 * (dec (i + 1) (xs.drop (i + 1))).1, (dec (i + 1) (xs.drop (i + 1))).2 + 1) := by
    rw [drop_cons xs i h, dec_cons, if_neg (by omega), if_pos hb]
  rw [e]
  by_cases h2 : (dec (i + 1) (xs.drop (i + 1))).2 = 0
  · rw [if_pos h2, dec_zero _ _ h2, fin_zero, fin_zero]
  · rw [if_neg h2, fin_succ]
    unfold fin
    rw [if_neg h2]
    refine Prod.ext ?_ ?_
    · show x + 128 ^ i * (xs.getD i 0 - 128 + 128 * _) = x + 128 ^ i * (xs.getD i 0 - 128) + 128 ^ (i + 1) * _
      rw [Int.mul_add, Int.pow_succ, ← Int.mul_assoc, Int.add_assoc]
    · show _ + 1 + i = _ + (i + 1)
      omega
theorem fin_stop (xs : List Int) (x : Int) (i : Nat) (h : xs.length ≤ i ∨ 9 ≤ i) : fin x i (dec i (xs.drop i)) = (0, 0) := by
  have e : dec i (xs.drop i) = (0, 0) := by
    rcases Nat.lt_or_ge i xs.length with c | c
    · rw [drop_cons xs i c, dec_cons, if_pos (by omega)]
    · rw [List.drop_of_length_le c]; rfl
  rw [e]; rfl
theorem fin_bad (xs : List Int) (x : Int) (i : Nat) (h : i < xs.length) (hb : xs.getD i 0 = 0) (h0 : 0 < i) : fin x i (dec i (xs.drop i)) = (0, 0) := by
  have e : dec i (xs.drop i) = (0, 0) := by
    rw [drop_cons xs i h, dec_cons]
    by_cases h9 : 9 ≤ i
    · rw [if_pos h9]
    · rw [if_neg h9, if_neg (by omega), if_pos ⟨hb, h0⟩]
  rw [e]; rfl
theorem fin_end (xs : List Int) (x : Int) (i : Nat) (h : i < xs.length) (h9 : i < 9) (hb : xs.getD i 0 ≤ 127) (h0 : ¬ (xs.getD i 0 = 0 ∧ 0 < i)) : fin x i (dec i (xs.drop i)) = (x + 128 ^ i * xs.getD i 0, i + 1) := by
  have e : dec i (xs.drop i) = (xs.getD i 0, 0 + 1) := by
    rw [drop_cons xs i h, dec_cons, if_neg (by omega), if_neg (by omega), if_neg h0]
  rw [e, fin_succ, Nat.zero_add, Nat.add_comm 1 i]
/-- 'x | int(b & 127) << (7 * i)' -/
theorem or_shift (x b : Int) (i : Nat) (hi : i < 9) (hx0 : 0 ≤ x) (hx : x < 128 ^ i) (hb0 : 0 ≤ b) (hb : b ≤ 255) :
    Go.bits .or .i64 x (IntKind.i64.wrap (Go.bits .and .u8 b 127 * 2 ^ (7 * i))) = x + 128 ^ i * (b % 128) := by
  have wr : ∀ n : Int, 0 ≤ n → n < 2 ^ 63 → IntKind.i64.wrap n = n := fun n h0 h1 => by rw [IntKind.wrap_i64]; omega
  have e1 : Go.bits .and .u8 b 127 = b % 128 := bits_mask .u8 8 (by decide) wraps_u8 7 (by decide) b hb0 (by omega)
  have ep : (128 : Int) ^ i = 2 ^ (7 * i) := by rw [show (128 : Int) = 2 ^ 7 from rfl, ← Int.pow_mul]
  have hp : (2 : Int) ^ (7 * i) ≤ 2 ^ 56 := by
    have := Nat.pow_le_pow_right (n := 2) (by decide) (show 7 * i ≤ 56 by omega)
    exact_mod_cast this
  have hpos : (0 : Int) < 2 ^ (7 * i) := Int.pow_pos (by decide)
  rw [e1]
  have hm0 : 0 ≤ b % 128 := by omega
  have hm1 : b % 128 ≤ 127 := by omega
  have hy0 : 0 ≤ b % 128 * 2 ^ (7 * i) := Int.mul_nonneg hm0 (Int.le_of_lt hpos)
  have hy1 : b % 128 * 2 ^ (7 * i) ≤ 127 * 2 ^ 56 := Int.mul_le_mul hm1 hp (Int.le_of_lt hpos) (by decide)
  rw [wr _ hy0 (by omega), Int.mul_comm (128 ^ i) (b % 128), ep]
  have hx2 : x < 2 ^ (7 * i) := by rw [← ep]; exact hx
  have key := bits_join .i64 63 (by decide) wr (7 * i) (b % 128 * 2 ^ (7 * i)) x hy0 (by exact Int.mul_emod_left _ _) (by omega) hx0 hx2 (by omega)
  have comm : Go.bits .or .i64 x (b % 128 * 2 ^ (7 * i)) = Go.bits .or .i64 (b % 128 * 2 ^ (7 * i)) x := by
    unfold Go.bits
    simp only [BitVec.or_comm]
  rw [comm, key, Int.add_comm]
theorem next_lt (x b : Int) (i : Nat) (hx0 : 0 ≤ x) (hx : x < 128 ^ i) (hb0 : 0 ≤ b) (hb : b ≤ 255) : 0 ≤ x + 128 ^ i * (b % 128) ∧ x + 128 ^ i * (b % 128) < 128 ^ (i + 1) := by
  have hpos : (0 : Int) < 128 ^ i := Int.pow_pos (by decide)
  have hm0 : 0 ≤ b % 128 := by omega
  have h1 : 0 ≤ 128 ^ i * (b % 128) := Int.mul_nonneg (Int.le_of_lt hpos) hm0
  have h2 : 128 ^ i * (b % 128) ≤ 128 ^ i * 127 := Int.mul_le_mul_of_nonneg_left (by omega) (Int.le_of_lt hpos)
  rw [Int.pow_succ]
  omega
/-! ### the reference's road -/
def hor (xs : List Int) : Nat → Nat → Int
  | 0, _ => 0
  | k + 1, i => xs.getD i 0 % 128 + 128 * hor xs k (i + 1)
theorem hor_lt (xs : List Int) (k i : Nat) : 0 ≤ hor xs k i ∧ hor xs k i < 128 ^ k := by
  induction k generalizing i with
  | zero => simp [hor]
  | succ k ih =>
    have := ih (i + 1)
    simp only [hor]
    rw [Int.pow_succ]
    omega
/-- the bytes from i to n - 1 are great ones -/
theorem dec_lead (xs : List Int) (hx : By xs) (n : Nat) (d i : Nat) (hd : i + d = n) (h : ∀ j, i ≤ j → j < n → 128 ≤ xs.getD j 0) (hn : n ≤ xs.length) :
    dec i (xs.drop i) = if xs.length ≤ n ∨ 9 ≤ n ∨ 127 < xs.getD n 0 ∨ (0 < n ∧ xs.getD n 0 = 0) then (if 127 < xs.getD n 0 ∧ n < xs.length ∧ n < 9 then dec i (xs.drop i) else (0, 0)) else (hor xs (d + 1) i, d + 1) := by
  by_cases hskip : 127 < xs.getD n 0 ∧ n < xs.length ∧ n < 9
  · rw [if_pos (by omega), if_pos hskip]
  rw [if_neg hskip]
  induction d generalizing i with
  | zero =>
    obtain rfl : i = n := by omega
    rcases Nat.lt_or_ge i xs.length with c | c
    · rw [drop_cons xs i c]
      rw [dec_cons]
      by_cases h9 : 9 ≤ i
      · rw [if_pos h9, if_pos (by omega)]
      · rw [if_neg h9]
        by_cases hb : 127 < xs.getD i 0
        · exact absurd ⟨hb, c, by omega⟩ hskip
        · rw [if_neg hb]
          by_cases h0 : xs.getD i 0 = 0 ∧ 0 < i
          · rw [if_pos h0, if_pos (by omega)]
          · rw [if_neg h0, if_neg (by omega)]
            have := (hx i).1
            simp only [hor]
            refine Prod.ext ?_ rfl
            show xs.getD i 0 = xs.getD i 0 % 128 + 128 * 0
            omega
    · rw [List.drop_of_length_le c, if_pos (.inl c)]; rfl
  | succ d ih =>
    have c : i < xs.length := by omega
    have hb := h i (Nat.le_refl _) (by omega)
    have h1 := ih (i + 1) (by omega) (fun j h1 h2 => h j (by omega) h2)
    rw [drop_cons xs i c]
    rw [dec_cons]
    by_cases h9 : 9 ≤ i
    · rw [if_pos h9, if_pos (by omega)]
    · rw [if_neg h9, if_pos (by omega), h1]
      by_cases hc : xs.length ≤ n ∨ 9 ≤ n ∨ 127 < xs.getD n 0 ∨ (0 < n ∧ xs.getD n 0 = 0)
      · rw [if_pos hc, if_pos hc]; rfl
      · rw [if_neg hc, if_neg hc, if_neg (by simp)]
        refine Prod.ext ?_ rfl
        have := (hx i).2
        show xs.getD i 0 - 128 + 128 * hor xs (d + 1) (i + 1) = xs.getD i 0 % 128 + 128 * hor xs (d + 1) (i + 1)
        omega
/-! ### there and back -/
theorem dec_enc (x : Nat) (i : Nat) (rest : List Int) (hx : x < 128 ^ (9 - i)) (hi : i < 9) (h0 : 0 < i → 0 < x) : dec i (enc x ++ rest) = ((x : Int), (enc x).length) := by
  induction x using Nat.strongRecOn generalizing i with
  | _ x ih =>
    rcases Nat.lt_or_ge x 128 with c | c
    · rw [enc_small x c]
      rw [List.cons_append, List.nil_append, dec_cons]
      rw [if_neg (by omega), if_neg (by omega), if_neg (by omega)]
      rfl
    · rw [enc_big x c]
      have hi8 : i < 8 := by
        rcases Nat.lt_or_ge i 8 with h | h
        · exact h
        · obtain rfl : i = 8 := by omega
          have : x < 128 := by simpa using hx
          omega
      have h1 := ih (x / 128) (by omega) (i + 1) (by
        rw [Nat.div_lt_iff_lt_mul (by decide), ← Nat.pow_succ]
        rwa [show (9 - (i + 1)).succ = 9 - i from by omega]) (by omega) (fun _ => by omega)
      have hne : (enc (x / 128)).length ≠ 0 := by
        have := enc_ne (x / 128)
        cases e : enc (x / 128) with
        | nil => exact absurd e this
        | cons => simp
      rw [List.cons_append, dec_cons]
      rw [if_neg (by omega), if_pos (by omega), h1, if_neg hne]
      refine Prod.ext ?_ rfl
      show ((x % 128 + 128 : Nat) : Int) - 128 + 128 * ((x / 128 : Nat) : Int) = x
      omega
theorem dec_back (i : Nat) (xs : List Int) (hx : By xs) (h : (dec i xs).2 ≠ 0) :
    ∃ x : Nat, (dec i xs).1 = x ∧ x < 128 ^ (9 - i) ∧ (dec i xs).2 ≤ xs.length ∧ (0 < i → 0 < x) ∧ enc x = xs.take (dec i xs).2 := by
  induction xs generalizing i with
  | nil => simp [dec] at h
  | cons b r ih =>
    have hb := hx.mem b (by simp)
    have hr : By r := By_of _ fun y hy => hx.mem y (List.mem_cons_of_mem _ hy)
    rw [dec_cons] at h ⊢
    by_cases h9 : 9 ≤ i
    · rw [if_pos h9] at h; simp at h
    · rw [if_neg h9] at h ⊢
      by_cases h1 : 127 < b
      · rw [if_pos h1] at h ⊢
        by_cases h2 : (dec (i + 1) r).2 = 0
        · rw [if_pos h2] at h; simp at h
        · rw [if_neg h2]
          obtain ⟨x, e1, e2, e3, e4, e5⟩ := ih (i + 1) hr h2
          obtain ⟨u, hu⟩ := Int.eq_ofNat_of_zero_le (show 0 ≤ b - 128 by omega)
          have hu1 : u < 128 := by omega
          have hx0 := e4 (by omega)
          refine ⟨u + 128 * x, ?_, ?_, by simp; omega, fun _ => by omega, ?_⟩
          · show b - 128 + 128 * _ = _
            rw [e1]; omega
          · rw [show 9 - i = (9 - (i + 1)) + 1 from by omega, Nat.pow_succ]
            omega
          · rw [enc_big _ (by omega)]
            rw [show (u + 128 * x) % 128 = u from by omega, show (u + 128 * x) / 128 = x from by omega, e5]
            show _ = (b :: r).take ((dec (i + 1) r).2 + 1)
            rw [List.take_succ_cons]
            congr 1
            omega
      · rw [if_neg h1] at h ⊢
        by_cases h2 : b = 0 ∧ 0 < i
        · rw [if_pos h2] at h; simp at h
        · rw [if_neg h2]
          obtain ⟨u, hu⟩ := Int.eq_ofNat_of_zero_le hb.1
          have hu1 : u < 128 := by omega
          refine ⟨u, hu, ?_, by simp, fun hi => by omega, ?_⟩
          · exact Nat.lt_of_lt_of_le hu1 (by
              have := Nat.pow_le_pow_right (n := 128) (by decide) (show 1 ≤ 9 - i by omega)
              simpa using this)
          · rw [enc_small u hu1, hu]; rfl
end Go.Proofs.YtobkcedmjeidfaaDoor.packp
