/- The plain laws of the sum over bytes: a nibble's table step is four bit steps; a bit step is linear and one to one. No program is in sight. -/
import Derived.Laws.BitsLemmas
set_option linter.unusedVariables false
set_option linter.unusedSimpArgs false
namespace Go.Proofs.YtjebmlfcdnpepaaDoor.crcp
open Go

/-! ### words of 32 bits -/
abbrev W := BitVec 32
def poly : W := 0xEDB88320#32
def pick (b : Bool) : W := if b then poly else 0#32
def bitV (r : W) : W := (r >>> 1) ^^^ pick (r.getLsbD 0)
theorem pick_xor (a b : Bool) : pick (a ^^ b) = pick a ^^^ pick b := by cases a <;> cases b <;> decide
theorem bitV_xor (a b : W) : bitV (a ^^^ b) = bitV a ^^^ bitV b := by
  unfold bitV
  rw [BitVec.getLsbD_xor, pick_xor, BitVec.ushiftRight_xor_distrib]
  ac_rfl
theorem bitV_even (r : W) (h : r.getLsbD 0 = false) : bitV r = r >>> 1 := by
  unfold bitV; rw [h]; simp [pick]
theorem xor_zero (a b : W) (h : a ^^^ b = 0#32) : a = b := by
  have := congrArg (· ^^^ b) h
  simpa [BitVec.xor_assoc] using this
theorem bitV_zero (d : W) (h : bitV d = 0#32) : d = 0#32 := by
  unfold bitV at h
  have h1 := xor_zero _ _ h
  cases hb : d.getLsbD 0
  · rw [hb] at h1
    have h2 : d >>> 1 = 0#32 := by rw [h1]; rfl
    apply BitVec.eq_of_getLsbD_eq
    intro i hi
    rw [BitVec.getLsbD_zero]
    match i, hi with
    | 0, _ => exact hb
    | i + 1, hi =>
      have := congrArg (fun v : W => v.getLsbD i) h2
      simp only [BitVec.getLsbD_ushiftRight, BitVec.getLsbD_zero] at this
      rw [Nat.add_comm] at this
      exact this
  · rw [hb] at h1
    have := congrArg (fun v : W => v.getLsbD 31) h1
    simp only [BitVec.getLsbD_ushiftRight] at this
    rw [BitVec.getLsbD_of_ge d _ (by omega)] at this
    exact absurd this (by decide)
theorem bitV_inj (a b : W) (h : bitV a = bitV b) : a = b := by
  have h1 : bitV (a ^^^ b) = 0#32 := by rw [bitV_xor, h, BitVec.xor_self]
  exact xor_zero _ _ (bitV_zero _ h1)

/-- n bit steps -/
def bits : Nat → W → W
  | 0, r => r
  | n + 1, r => bits n (bitV r)
theorem bits_add (m n : Nat) (r : W) : bits (m + n) r = bits n (bits m r) := by
  induction m generalizing r with
  | zero => simp [bits]
  | succ m ih => rw [Nat.succ_add]; simp only [bits]; exact ih _
theorem bits_xor (n : Nat) (a b : W) : bits n (a ^^^ b) = bits n a ^^^ bits n b := by
  induction n generalizing a b with
  | zero => rfl
  | succ n ih => simp only [bits, bitV_xor, ih]
theorem bits_inj (n : Nat) (a b : W) (h : bits n a = bits n b) : a = b := by
  induction n generalizing a b with
  | zero => exact h
  | succ n ih => exact bitV_inj _ _ (ih _ _ h)
theorem bits_zero (n : Nat) : bits n 0#32 = 0#32 := by
  induction n with
  | zero => rfl
  | succ n ih => simp only [bits]; rw [show bitV 0#32 = 0#32 from by decide]; exact ih
/-- where the lowest n bits are 0 it is a shift -/
theorem bits_low (n : Nat) (r : W) (h : ∀ i, i < n → r.getLsbD i = false) : bits n r = r >>> n := by
  induction n generalizing r with
  | zero => simp [bits]
  | succ n ih =>
    simp only [bits]
    rw [bitV_even r (h 0 (by omega)), ih]
    · rw [← BitVec.shiftRight_add, Nat.add_comm]
    · intro i hi
      rw [BitVec.getLsbD_ushiftRight, Nat.add_comm]
      exact h _ (by omega)

/-! ### the table -/
def tabN : List Nat := [0, 498536548, 997073096, 651767980, 1994146192, 1802195444, 1303535960, 1342533948, 3988292384, 4027552580, 3604390888, 3412177804, 2607071920, 2262029012, 2685067896, 3183342108]
def tab : List Int := [0, 498536548, 997073096, 651767980, 1994146192, 1802195444, 1303535960, 1342533948, 3988292384, 4027552580, 3604390888, 3412177804, 2607071920, 2262029012, 2685067896, 3183342108]
theorem tab_bits : ∀ i : Fin 16, bits 4 (BitVec.ofNat 32 i.val) = BitVec.ofInt 32 (tab.getD i.val 0) := by decide +kernel
def nibV (r : W) : W := (r >>> 4) ^^^ BitVec.ofInt 32 (tab.getD (r.toNat % 16) 0)
theorem nibV_bits (r : W) : nibV r = bits 4 r := by
  have e : r = (r &&& 0xFFFFFFF0#32) ^^^ (BitVec.ofNat 32 (r.toNat % 16)) := by
    apply BitVec.eq_of_getLsbD_eq
    intro i hi
    have hm : (0xFFFFFFF0#32).getLsbD i = decide (4 ≤ i) := by
      revert i
      decide
    have h16 : (r.toNat % 16).testBit i = (decide (i < 4) && r.getLsbD i) := by
      rw [show (16 : Nat) = 2 ^ 4 from rfl, Nat.testBit_mod_two_pow]; rfl
    have h17 : (BitVec.ofNat 32 (r.toNat % 16)).getLsbD i = (decide (i < 4) && r.getLsbD i) := by
      rw [BitVec.getLsbD_ofNat, h16]; simp [hi]
    rw [BitVec.getLsbD_xor, BitVec.getLsbD_and, h17, hm]
    by_cases h4 : i < 4
    · have : ¬ 4 ≤ i := by omega
      simp [h4, this, hi]
    · have : 4 ≤ i := by omega
      simp [h4, this, hi]
  have hl : bits 4 (r &&& 0xFFFFFFF0#32) = r >>> 4 := by
    rw [bits_low]
    · apply BitVec.eq_of_getLsbD_eq
      intro i hi
      rw [BitVec.getLsbD_ushiftRight, BitVec.getLsbD_ushiftRight, BitVec.getLsbD_and]
      by_cases h : 4 + i < 32
      · have : (0xFFFFFFF0#32).getLsbD (4 + i) = true := by
          revert i
          decide
        rw [this, Bool.and_true]
      · rw [BitVec.getLsbD_of_ge r _ (by omega), Bool.false_and]
    · intro i hi
      rw [BitVec.getLsbD_and]
      have : (0xFFFFFFF0#32).getLsbD i = false := by
        revert i
        decide
      rw [this, Bool.and_false]
  have ht : bits 4 (BitVec.ofNat 32 (r.toNat % 16)) = BitVec.ofInt 32 (tab.getD (r.toNat % 16) 0) := tab_bits ⟨r.toNat % 16, Nat.mod_lt _ (by decide)⟩
  rw [e, bits_xor, hl, ht, ← e]
  rfl
/-- one byte -/
def bytV (r x : W) : W := bits 8 (r ^^^ x)
theorem bytV_nib (r x : W) : nibV (nibV (r ^^^ x)) = bytV r x := by
  rw [nibV_bits, nibV_bits, ← bits_add]; rfl
theorem bytV_xor (r s x y : W) : bytV (r ^^^ s) (x ^^^ y) = bytV r x ^^^ bytV s y := by
  unfold bytV
  rw [← bits_xor]
  congr 1
  ac_rfl
theorem bytV_inj (r s x : W) (h : bytV r x = bytV s x) : r = s := by
  have h1 := bits_inj _ _ _ h
  have := congrArg (· ^^^ x) h1
  simpa [BitVec.xor_assoc] using this
/-- a list of bytes -/
def run (r : W) (l : List W) : W := l.foldl bytV r
theorem run_append (r : W) (a b : List W) : run r (a ++ b) = run (run r a) b := List.foldl_append ..
theorem run_inj (l : List W) (r s : W) (h : run r l = run s l) : r = s := by
  induction l generalizing r s with
  | nil => exact h
  | cons x l ih => exact bytV_inj _ _ x (ih _ _ h)
theorem run_xor (l m : List W) (h : l.length = m.length) (r s : W) : run (r ^^^ s) (List.zipWith (· ^^^ ·) l m) = run r l ^^^ run s m := by
  induction l generalizing m r s with
  | nil => cases m with
    | nil => rfl
    | cons => simp at h
  | cons x l ih => cases m with
    | nil => simp at h
    | cons y m =>
      simp only [List.zipWith_cons_cons, run, List.foldl_cons]
      rw [bytV_xor]
      exact ih m (by simpa using h) _ _

/-! ### the walk's own spelling -/
def U32 (r : Int) : Prop := 0 ≤ r ∧ r ≤ 4294967295
def xr (a b : Int) : Int := Go.bits .xor .u32 a b
def lo4 (a : Int) : Int := Go.bits .and .u32 a 15
def nib (r : Int) : Int := xr (r / 16) (tab.getD (lo4 r).toNat 0)
def flip (r : Int) : Int := Go.bits .xor .u32 IntKind.u32.max r
def byt (r x : Int) : Int := nib (nib (xr r x))
def add (s : Int) (xs : List Int) : Int := flip (xs.foldl byt (flip s))
def lowbit (r : Int) : Int := Go.bits .and .u32 r 1
def bit (r : Int) : Int := if (lowbit r == 1) = true then xr (r / 2) 3988292384 else r / 2
def refbyt (r x : Int) : Int := bit (bit (bit (bit (bit (bit (bit (bit (xr r x))))))))
def refadd (s : Int) (xs : List Int) : Int := flip (xs.foldl refbyt (flip s))
theorem U32_bits (op : BinOp) (a b : Int) : U32 (Go.bits op .u32 a b) := by
  unfold U32 Go.bits
  split <;> simp only [IntKind.wrap_u32] <;> omega
theorem U32_flip (r : Int) : U32 (flip r) := U32_bits _ _ _
theorem U32_xr (a b : Int) : U32 (xr a b) := U32_bits _ _ _
theorem U32_nib (r : Int) : U32 (nib r) := U32_xr _ _
theorem U32_add (s : Int) (xs : List Int) : U32 (add s xs) := U32_flip _
theorem U32_refadd (s : Int) (xs : List Int) : U32 (refadd s xs) := U32_flip _
theorem lo4_r (r : Int) (h : U32 r) : lo4 r = r % 16 := by
  unfold lo4
  obtain ⟨a, rfl⟩ := Int.eq_ofNat_of_zero_le h.1
  exact bits_mask .u32 32 (by decide) (fun n h0 h1 => by rw [IntKind.wrap_u32]; omega) 4 (by decide) _ h.1 (by have := h.2; omega)
theorem lowbit_r (r : Int) (h : U32 r) : lowbit r = r % 2 := by
  unfold lowbit
  obtain ⟨a, rfl⟩ := Int.eq_ofNat_of_zero_le h.1
  exact bits_mask .u32 32 (by decide) (fun n h0 h1 => by rw [IntKind.wrap_u32]; omega) 1 (by decide) _ h.1 (by have := h.2; omega)
def V (a : Int) : W := BitVec.ofInt 32 a
theorem V_nat (a : Nat) : V (a : Int) = BitVec.ofNat 32 a := BitVec.ofInt_natCast ..
theorem V_of (a : Int) (h : U32 a) : a = ((V a).toNat : Int) := by
  obtain ⟨n, rfl⟩ := Int.eq_ofNat_of_zero_le h.1
  rw [V_nat, BitVec.toNat_ofNat]
  have := h.2
  omega
theorem V_inj (a b : Int) (ha : U32 a) (hb : U32 b) (h : V a = V b) : a = b := by rw [V_of a ha, V_of b hb, h]
theorem V_xr (a b : Int) : V (xr a b) = V a ^^^ V b := by
  have e : xr a b = (((V a ^^^ V b).toNat : Nat) : Int) := by
    unfold xr Go.bits V
    simp only [IntKind.wrap_u32]
    have := (BitVec.ofInt 32 a ^^^ BitVec.ofInt 32 b).isLt
    show ((BitVec.ofInt 32 a ^^^ BitVec.ofInt 32 b).toNat : Int) % 4294967296 = _
    omega
  rw [e, V_nat, BitVec.ofNat_toNat, BitVec.setWidth_eq]
theorem V_flip (a : Int) : V (flip a) = ~~~ V a := by
  have h : V (flip a) = V IntKind.u32.max ^^^ V a := V_xr _ _
  rw [h, show V IntKind.u32.max = BitVec.allOnes 32 from by decide, BitVec.allOnes_xor]
theorem V_shift (r : Int) (h : U32 r) (k : Nat) : V (r / ((2 ^ k : Nat) : Int)) = V r >>> k := by
  obtain ⟨n, rfl⟩ := Int.eq_ofNat_of_zero_le h.1
  have hn : n < 4294967296 := by have := h.2; omega
  rw [show ((n : Int) / ((2 ^ k : Nat) : Int)) = ((n / 2 ^ k : Nat) : Int) from (Int.natCast_ediv n _).symm, V_nat, V_nat]
  apply BitVec.eq_of_toNat_eq
  rw [BitVec.toNat_ushiftRight, BitVec.toNat_ofNat, BitVec.toNat_ofNat, Nat.shiftRight_eq_div_pow, Nat.mod_eq_of_lt hn, Nat.mod_eq_of_lt]
  exact Nat.lt_of_le_of_lt (Nat.div_le_self _ _) hn
theorem V_toNat (r : Int) (h : U32 r) : (V r).toNat = r.toNat := by
  have := V_of r h
  omega
theorem V_nib (r : Int) (h : U32 r) : V (nib r) = nibV (V r) := by
  unfold nib nibV
  rw [V_xr, show r / 16 = r / ((2 ^ 4 : Nat) : Int) from rfl, V_shift r h, V_toNat r h]
  have : (lo4 r).toNat = r.toNat % 16 := by rw [lo4_r r h]; have := h.1; omega
  rw [this]
  rfl
theorem V_byt (r x : Int) : V (byt r x) = bytV (V r) (V x) := by
  unfold byt
  rw [V_nib _ (U32_nib _), V_nib _ (U32_xr _ _), V_xr, bytV_nib]
theorem V_fold (xs : List Int) (r : Int) : V (xs.foldl byt r) = run (V r) (xs.map V) := by
  induction xs generalizing r with
  | nil => rfl
  | cons x xs ih => simp only [List.foldl_cons, List.map_cons, run]; rw [ih, V_byt]; rfl
theorem V_add (s : Int) (xs : List Int) : V (add s xs) = ~~~ run (~~~ V s) (xs.map V) := by
  unfold add
  rw [V_flip, V_fold, V_flip]
theorem U32_bit (r : Int) (h : U32 r) : U32 (bit r) := by
  unfold bit
  split
  · exact U32_xr _ _
  · have := h.1; have := h.2; constructor <;> omega
theorem V_bit (r : Int) (h : U32 r) : V (bit r) = bitV (V r) := by
  have hl : (V r).getLsbD 0 = decide (r % 2 = 1) := by
    rw [BitVec.getLsbD, V_toNat r h, Nat.testBit_zero]
    have := h.1
    rw [decide_eq_decide]
    omega
  have hd : V (r / 2) = V r >>> 1 := V_shift r h 1
  unfold bit bitV
  rw [lowbit_r r h, hl]
  by_cases h1 : r % 2 = 1
  · rw [if_pos (by simp [h1]), V_xr, hd]
    simp only [h1, pick]
    rfl
  · rw [if_neg (by simp [h1]), hd]
    simp [h1, pick]
theorem V_refbyt (r x : Int) : V (refbyt r x) = bytV (V r) (V x) := by
  have h0 := U32_xr r x
  have h1 := U32_bit _ h0
  have h2 := U32_bit _ h1
  have h3 := U32_bit _ h2
  have h4 := U32_bit _ h3
  have h5 := U32_bit _ h4
  have h6 := U32_bit _ h5
  have h7 := U32_bit _ h6
  unfold refbyt
  rw [V_bit _ h7, V_bit _ h6, V_bit _ h5, V_bit _ h4, V_bit _ h3, V_bit _ h2, V_bit _ h1, V_bit _ h0, V_xr]
  rfl
theorem V_reffold (xs : List Int) (r : Int) : V (xs.foldl refbyt r) = run (V r) (xs.map V) := by
  induction xs generalizing r with
  | nil => rfl
  | cons x xs ih => simp only [List.foldl_cons, List.map_cons, run]; rw [ih, V_refbyt]; rfl
/-- the table's road and the bits' road meet -/
theorem add_ref (s : Int) (xs : List Int) : refadd s xs = add s xs := by
  refine V_inj _ _ (U32_refadd _ _) (U32_add _ _) ?_
  rw [V_add]
  unfold refadd
  rw [V_flip, V_reffold, V_flip]
theorem add_append (s : Int) (a b : List Int) : add (add s a) b = add s (a ++ b) := by
  refine V_inj _ _ (U32_add _ _) (U32_add _ _) ?_
  rw [V_add, V_add, V_add, BitVec.not_not, List.map_append, run_append]
theorem add_inj (s t : Int) (hs : U32 s) (ht : U32 t) (l : List Int) (h : add s l = add t l) : s = t := by
  refine V_inj _ _ hs ht ?_
  have h1 := congrArg V h
  rw [V_add, V_add] at h1
  have h2 := run_inj _ _ _ (BitVec.not_inj.1 h1)
  exact BitVec.not_inj.1 h2
theorem add_nil (s : Int) (hs : U32 s) : add s [] = s := by
  refine V_inj _ _ (U32_add _ _) hs ?_
  rw [V_add]; simp [run]
theorem wakes_sum : (add 0 [49, 50, 51, 52, 53, 54, 55, 56, 57] == 3421780262) = true := by decide +kernel
end Go.Proofs.YtjebmlfcdnpepaaDoor.crcp
