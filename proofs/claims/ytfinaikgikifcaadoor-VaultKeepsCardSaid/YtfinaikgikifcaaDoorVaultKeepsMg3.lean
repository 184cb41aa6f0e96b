/- The plain laws of the sum over bytes: a nibble's table step is four bit steps; a bit step is linear and one to one. No program is in sight; and what is proved besides: see the words ahead of each part. -/
import Derived.Laws.BitsLemmas
import Derived.Lib.EndianBits
import Derived.Deep.RegionHeld3
import Derived.Test.YtfinaikgikifcaaDoorWWords
import Derived.RangeFuncNested
import Derived.RangeFuncBound
import Derived.RangeFuncCalls
import Derived.RangeFuncLeaves
import Derived.Shelf.Abstract
import Derived.Shelf.RegionOpen
import Derived.WalkKit
import Derived.OwnWalkIn
import Derived.TacticsInMore
import Derived.LoopNIn
import Derived.LoopIn
import Derived.Test.YtfinaikgikifcaaDoorVaultKeepsMg2
set_option linter.unusedVariables false
set_option linter.unusedSimpArgs false
/- The plain laws of the sum over bytes: a nibble's table step is four bit steps; a bit step is linear and one to one. No program is in sight. -/
namespace Go.Proofs.YtfinaikgikifcaaDoor.crcp
open Go

/-! ### words of 32 bits -/
abbrev W := BitVec 32
def poly : W := 0xEDB88320#32
def pick (b : Bool) : W := if b then poly else 0#32
def bitV (r : W) : W := (r >>> 1) ^^^ pick (r.getLsbD 0)
theorem pick_xor (a b : Bool) : pick (a ^^ b) = pick a ^^^ pick b := by cases a <;> cases b <;> decide
theorem bitV_xor (a b : W) : bitV (a ^^^ b) = bitV a ^^^ bitV b := by
  unfold bitV
  rw [BitVec.getLsbD_xor, pick_xor, BitVec.ushiftRight_xor_distrib]
  ac_rfl
theorem bitV_even (r : W) (h : r.getLsbD 0 = false) : bitV r = r >>> 1 := by
  unfold bitV; rw [h]; simp [pick]
theorem xor_zero (a b : W) (h : a ^^^ b = 0#32) : a = b := by
  have := congrArg (· ^^^ b) h
  simpa [BitVec.xor_assoc] using this
theorem bitV_zero (d : W) (h : bitV d = 0#32) : d = 0#32 := by
  unfold bitV at h
  have h1 := xor_zero _ _ h
  cases hb : d.getLsbD 0
  · rw [hb] at h1
    have h2 : d >>> 1 = 0#32 := by rw [h1]; rfl
    apply BitVec.eq_of_getLsbD_eq
    intro i hi
    rw [BitVec.getLsbD_zero]
    match i, hi with
    | 0, _ => exact hb
    | i + 1, hi =>
      have := congrArg (fun v : W => v.getLsbD i) h2
      simp only [BitVec.getLsbD_ushiftRight, BitVec.getLsbD_zero] at this
      rw [Nat.add_comm] at this
      exact this
  · rw [hb] at h1
    have := congrArg (fun v : W => v.getLsbD 31) h1
    simp only [BitVec.getLsbD_ushiftRight] at this
    rw [BitVec.getLsbD_of_ge d _ (by omega)] at this
    exact absurd this (by decide)
theorem bitV_inj (a b : W) (h : bitV a = bitV b) : a = b := by
  have h1 : bitV (a ^^^ b) = 0#32 := by rw [bitV_xor, h, BitVec.xor_self]
  exact xor_zero _ _ (bitV_zero _ h1)

/-- n bit steps -/
def bits : Nat → W → W
  | 0, r => r
  | n + 1, r => bits n (bitV r)
theorem bits_add (m n : Nat) (r : W) : bits (m + n) r = bits n (bits m r) := by
  induction m generalizing r with
  | zero => simp [bits]
  | succ m ih => rw [Nat.succ_add]; simp only [bits]; exact ih _
theorem bits_xor (n : Nat) (a b : W) : bits n (a ^^^ b) = bits n a ^^^ bits n b := by
  induction n generalizing a b with
  | zero => rfl
  | succ n ih => simp only [bits, bitV_xor, ih]
theorem bits_inj (n : Nat) (a b : W) (h : bits n a = bits n b) : a = b := by
  induction n generalizing a b with
  | zero => exact h
  | succ n ih => exact bitV_inj _ _ (ih _ _ h)
theorem bits_zero (n : Nat) : bits n 0#32 = 0#32 := by
  induction n with
  | zero => rfl
  | succ n ih => simp only [bits]; rw [show bitV 0#32 = 0#32 from by decide]; exact ih
/-- where the lowest n bits are 0 it is a shift -/
theorem bits_low (n : Nat) (r : W) (h : ∀ i, i < n → r.getLsbD i = false) : bits n r = r >>> n := by
  induction n generalizing r with
  | zero => simp [bits]
  | succ n ih =>
    simp only [bits]
    rw [bitV_even r (h 0 (by omega)), ih]
    · rw [← BitVec.shiftRight_add, Nat.add_comm]
    · intro i hi
      rw [BitVec.getLsbD_ushiftRight, Nat.add_comm]
      exact h _ (by omega)

/-! ### the table -/
def tabN : List Nat := [0, 498536548, 997073096, 651767980, 1994146192, 1802195444, 1303535960, 1342533948, 3988292384, 4027552580, 3604390888, 3412177804, 2607071920, 2262029012, 2685067896, 3183342108]
def tab : List Int := [0, 498536548, 997073096, 651767980, 1994146192, 1802195444, 1303535960, 1342533948, 3988292384, 4027552580, 3604390888, 3412177804, 2607071920, 2262029012, 2685067896, 3183342108]
theorem tab_bits : ∀ i : Fin 16, bits 4 (BitVec.ofNat 32 i.val) = BitVec.ofInt 32 (tab.getD i.val 0) := by decide +kernel
def nibV (r : W) : W := (r >>> 4) ^^^ BitVec.ofInt 32 (tab.getD (r.toNat % 16) 0)
theorem nibV_bits (r : W) : nibV r = bits 4 r := by
  have e : r = (r &&& 0xFFFFFFF0#32) ^^^ (BitVec.ofNat 32 (r.toNat % 16)) := by
    apply BitVec.eq_of_getLsbD_eq
    intro i hi
    have hm : (0xFFFFFFF0#32).getLsbD i = decide (4 ≤ i) := by
      revert i
      decide
    have h16 : (r.toNat % 16).testBit i = (decide (i < 4) && r.getLsbD i) := by
      rw [show (16 : Nat) = 2 ^ 4 from rfl, Nat.testBit_mod_two_pow]; rfl
    have h17 : (BitVec.ofNat 32 (r.toNat % 16)).getLsbD i = (decide (i < 4) && r.getLsbD i) := by
      rw [BitVec.getLsbD_ofNat, h16]; simp [hi]
    rw [BitVec.getLsbD_xor, BitVec.getLsbD_and, h17, hm]
    by_cases h4 : i < 4
    · have : ¬ 4 ≤ i := by omega
      simp [h4, this, hi]
    · have : 4 ≤ i := by omega
      simp [h4, this, hi]
  have hl : bits 4 (r &&& 0xFFFFFFF0#32) = r >>> 4 := by
    rw [bits_low]
    · apply BitVec.eq_of_getLsbD_eq
      intro i hi
      rw [BitVec.getLsbD_ushiftRight, BitVec.getLsbD_ushiftRight, BitVec.getLsbD_and]
      by_cases h : 4 + i < 32
      · have : (0xFFFFFFF0#32).getLsbD (4 + i) = true := by
          revert i
          decide
        rw [this, Bool.and_true]
      · rw [BitVec.getLsbD_of_ge r _ (by omega), Bool.false_and]
    · intro i hi
      rw [BitVec.getLsbD_and]
      have : (0xFFFFFFF0#32).getLsbD i = false := by
        revert i
        decide
      rw [this, Bool.and_false]
  have ht : bits 4 (BitVec.ofNat 32 (r.toNat % 16)) = BitVec.ofInt 32 (tab.getD (r.toNat % 16) 0) := tab_bits ⟨r.toNat % 16, Nat.mod_lt _ (by decide)⟩
  rw [e, bits_xor, hl, ht, ← e]
  rfl
/-- one byte -/
def bytV (r x : W) : W := bits 8 (r ^^^ x)
theorem bytV_nib (r x : W) : nibV (nibV (r ^^^ x)) = bytV r x := by
  rw [nibV_bits, nibV_bits, ← bits_add]; rfl
theorem bytV_xor (r s x y : W) : bytV (r ^^^ s) (x ^^^ y) = bytV r x ^^^ bytV s y := by
  unfold bytV
  rw [← bits_xor]
  congr 1
  ac_rfl
theorem bytV_inj (r s x : W) (h : bytV r x = bytV s x) : r = s := by
  have h1 := bits_inj _ _ _ h
  have := congrArg (· ^^^ x) h1
  simpa [BitVec.xor_assoc] using this
/-- a list of bytes -/
def run (r : W) (l : List W) : W := l.foldl bytV r
theorem run_append (r : W) (a b : List W) : run r (a ++ b) = run (run r a) b := List.foldl_append ..
theorem run_inj (l : List W) (r s : W) (h : run r l = run s l) : r = s := by
  induction l generalizing r s with
  | nil => exact h
  | cons x l ih => exact bytV_inj _ _ x (ih _ _ h)
theorem run_xor (l m : List W) (h : l.length = m.length) (r s : W) : run (r ^^^ s) (List.zipWith (· ^^^ ·) l m) = run r l ^^^ run s m := by
  induction l generalizing m r s with
  | nil => cases m with
    | nil => rfl
    | cons => simp at h
  | cons x l ih => cases m with
    | nil => simp at h
    | cons y m =>
      simp only [List.zipWith_cons_cons, run, List.foldl_cons]
      rw [bytV_xor]
      exact ih m (by simpa using h) _ _

/-! ### the walk's own spelling -/
def U32 (r : Int) : Prop := 0 ≤ r ∧ r ≤ 4294967295
def xr (a b : Int) : Int := Go.bits .xor .u32 a b
def lo4 (a : Int) : Int := Go.bits .and .u32 a 15
def nib (r : Int) : Int := xr (r / 16) (tab.getD (lo4 r).toNat 0)
def flip (r : Int) : Int := Go.bits .xor .u32 IntKind.u32.max r
def byt (r x : Int) : Int := nib (nib (xr r x))
def add (s : Int) (xs : List Int) : Int := flip (xs.foldl byt (flip s))
def lowbit (r : Int) : Int := Go.bits .and .u32 r 1
def bit (r : Int) : Int := if (lowbit r == 1) = true then xr (r / 2) 3988292384 else r / 2
def refbyt (r x : Int) : Int := bit (bit (bit (bit (bit (bit (bit (bit (xr r x))))))))
def refadd (s : Int) (xs : List Int) : Int := flip (xs.foldl refbyt (flip s))
theorem U32_bits (op : BinOp) (a b : Int) : U32 (Go.bits op .u32 a b) := by
  unfold U32 Go.bits
  split <;> simp only [IntKind.wrap_u32] <;> omega
theorem U32_flip (r : Int) : U32 (flip r) := U32_bits _ _ _
theorem U32_xr (a b : Int) : U32 (xr a b) := U32_bits _ _ _
theorem U32_nib (r : Int) : U32 (nib r) := U32_xr _ _
theorem U32_add (s : Int) (xs : List Int) : U32 (add s xs) := U32_flip _
theorem U32_refadd (s : Int) (xs : List Int) : U32 (refadd s xs) := U32_flip _
theorem lo4_r (r : Int) (h : U32 r) : lo4 r = r % 16 := by
  unfold lo4
  obtain ⟨a, rfl⟩ := Int.eq_ofNat_of_zero_le h.1
  exact bits_mask .u32 32 (by decide) (fun n h0 h1 => by rw [IntKind.wrap_u32]; omega) 4 (by decide) _ h.1 (by have := h.2; omega)
theorem lowbit_r (r : Int) (h : U32 r) : lowbit r = r % 2 := by
  unfold lowbit
  obtain ⟨a, rfl⟩ := Int.eq_ofNat_of_zero_le h.1
  exact bits_mask .u32 32 (by decide) (fun n h0 h1 => by rw [IntKind.wrap_u32]; omega) 1 (by decide) _ h.1 (by have := h.2; omega)
def V (a : Int) : W := BitVec.ofInt 32 a
theorem V_nat (a : Nat) : V (a : Int) = BitVec.ofNat 32 a := BitVec.ofInt_natCast ..
theorem V_of (a : Int) (h : U32 a) : a = ((V a).toNat : Int) := by
  obtain ⟨n, rfl⟩ := Int.eq_ofNat_of_zero_le h.1
  rw [V_nat, BitVec.toNat_ofNat]
  have := h.2
  omega
theorem V_inj (a b : Int) (ha : U32 a) (hb : U32 b) (h : V a = V b) : a = b := by rw [V_of a ha, V_of b hb, h]
theorem V_xr (a b : Int) : V (xr a b) = V a ^^^ V b := by
  have e : xr a b = (((V a ^^^ V b).toNat : Nat) : Int) := by
    unfold xr Go.bits V
    simp only [IntKind.wrap_u32]
    have := (BitVec.ofInt 32 a ^^^ BitVec.ofInt 32 b).isLt
    show ((BitVec.ofInt 32 a ^^^ BitVec.ofInt 32 b).toNat : Int) % 4294967296 = _
    omega
  rw [e, V_nat, BitVec.ofNat_toNat, BitVec.setWidth_eq]
theorem V_flip (a : Int) : V (flip a) = ~~~ V a := by
  have h : V (flip a) = V IntKind.u32.max ^^^ V a := V_xr _ _
  rw [h, show V IntKind.u32.max = BitVec.allOnes 32 from by decide, BitVec.allOnes_xor]
theorem V_shift (r : Int) (h : U32 r) (k : Nat) : V (r / ((2 ^ k : Nat) : Int)) = V r >>> k := by
  obtain ⟨n, rfl⟩ := Int.eq_ofNat_of_zero_le h.1
  have hn : n < 4294967296 := by have := h.2; omega
  rw [show ((n : Int) / ((2 ^ k : Nat) : Int)) = ((n / 2 ^ k : Nat) : Int) from (Int.natCast_ediv n _).symm, V_nat, V_nat]
  apply BitVec.eq_of_toNat_eq
  rw [BitVec.toNat_ushiftRight, BitVec.toNat_ofNat, BitVec.toNat_ofNat, Nat.shiftRight_eq_div_pow, Nat.mod_eq_of_lt hn, Nat.mod_eq_of_lt]
  exact Nat.lt_of_le_of_lt (Nat.div_le_self _ _) hn
theorem V_toNat (r : Int) (h : U32 r) : (V r).toNat = r.toNat := by
  have := V_of r h
  omega
theorem V_nib (r : Int) (h : U32 r) : V (nib r) = nibV (V r) := by
  unfold nib nibV
  rw [V_xr, show r / 16 = r / ((2 ^ 4 : Nat) : Int) from rfl, V_shift r h, V_toNat r h]
  have : (lo4 r).toNat = r.toNat % 16 := by rw [lo4_r r h]; have := h.1; omega
  rw [this]
  rfl
theorem V_byt (r x : Int) : V (byt r x) = bytV (V r) (V x) := by
  unfold byt
  rw [V_nib _ (U32_nib _), V_nib _ (U32_xr _ _), V_xr, bytV_nib]
theorem V_fold (xs : List Int) (r : Int) : V (xs.foldl byt r) = run (V r) (xs.map V) := by
  induction xs generalizing r with
  | nil => rfl
  | cons x xs ih => simp only [List.foldl_cons, List.map_cons, run]; rw [ih, V_byt]; rfl
theorem V_add (s : Int) (xs : List Int) : V (add s xs) = ~~~ run (~~~ V s) (xs.map V) := by
  unfold add
  rw [V_flip, V_fold, V_flip]
theorem U32_bit (r : Int) (h : U32 r) : U32 (bit r) := by
  unfold bit
  split
  · exact U32_xr _ _
  · have := h.1; have := h.2; constructor <;> omega
theorem V_bit (r : Int) (h : U32 r) : V (bit r) = bitV (V r) := by
  have hl : (V r).getLsbD 0 = decide (r % 2 = 1) := by
    rw [BitVec.getLsbD, V_toNat r h, Nat.testBit_zero]
    have := h.1
    rw [decide_eq_decide]
    omega
  have hd : V (r / 2) = V r >>> 1 := V_shift r h 1
  unfold bit bitV
  rw [lowbit_r r h, hl]
  by_cases h1 : r % 2 = 1
  · rw [if_pos (by simp [h1]), V_xr, hd]
    simp only [h1, pick]
    rfl
  · rw [if_neg (by simp [h1]), hd]
    simp [h1, pick]
theorem V_refbyt (r x : Int) : V (refbyt r x) = bytV (V r) (V x) := by
  have h0 := U32_xr r x
  have h1 := U32_bit _ h0
  have h2 := U32_bit _ h1
  have h3 := U32_bit _ h2
  have h4 := U32_bit _ h3
  have h5 := U32_bit _ h4
  have h6 := U32_bit _ h5
  have h7 := U32_bit _ h6
  unfold refbyt
  rw [V_bit _ h7, V_bit _ h6, V_bit _ h5, V_bit _ h4, V_bit _ h3, V_bit _ h2, V_bit _ h1, V_bit _ h0, V_xr]
  rfl
theorem V_reffold (xs : List Int) (r : Int) : V (xs.foldl refbyt r) = run (V r) (xs.map V) := by
  induction xs generalizing r with
  | nil => rfl
  | cons x xs ih => simp only [List.foldl_cons, List.map_cons, run]; rw [ih, V_refbyt]; rfl
/-- the table's road and the bits' road meet -/
theorem add_ref (s : Int) (xs : List Int) : refadd s xs = add s xs := by
  refine V_inj _ _ (U32_refadd _ _) (U32_add _ _) ?_
  rw [V_add]
  unfold refadd
  rw [V_flip, V_reffold, V_flip]
theorem add_append (s : Int) (a b : List Int) : add (add s a) b = add s (a ++ b) := by
  refine V_inj _ _ (U32_add _ _) (U32_add _ _) ?_
  rw [V_add, V_add, V_add, BitVec.not_not, List.map_append, run_append]
theorem add_inj (s t : Int) (hs : U32 s) (ht : U32 t) (l : List Int) (h : add s l = add t l) : s = t := by
  refine V_inj _ _ hs ht ?_
  have h1 := congrArg V h
  rw [V_add, V_add] at h1
  have h2 := run_inj _ _ _ (BitVec.not_inj.1 h1)
  exact BitVec.not_inj.1 h2
theorem add_nil (s : Int) (hs : U32 s) : add s [] = s := by
  refine V_inj _ _ (U32_add _ _) hs ?_
  rw [V_add]; simp [run]
theorem wakes_sum : (add 0 [49, 50, 51, 52, 53, 54, 55, 56, 57] == 3421780262) = true := by decide +kernel
end Go.Proofs.YtfinaikgikifcaaDoor.crcp
/- What crc.Add, crc.Sum and the reference's Add and Sum compute: each is walked once. -/
namespace Go.Proofs.YtfinaikgikifcaaDoor.crcw
open Go.RowKit Go.Proofs.YtfinaikgikifcaaDoorW.PrintWords Go.Proofs.YtfinaikgikifcaaDoor.base Go.Proofs.YtfinaikgikifcaaDoor.crcp

def Table (w : World) : Prop := ∀ i : Nat, i < 16 → w.cell? ⟨0, i, none⟩ = some (.int .u32 (tab.getD i 0))
theorem Table.below {w w1 : World} (h : Table w) (hb : Below w.heap.size w w1) : Table w1 := fun i hi => pw_cell_below hb (h i hi)
theorem nib_step {j : Nat} {q v b : Int} (hj : j < 2) (h : q = if j = 0 then xr v b else if j = 1 then nib (xr v b) else byt v b) : nib q = if j + 1 = 0 then xr v b else if j + 1 = 1 then nib (xr v b) else byt v b := by
  subst h
  match j, hj with
  | 0, _ => rfl
  | 1, _ => rfl

set_option maxHeartbeats 400000 in
theorem add_any (s : Int) (A : Option Addr) (n c : Nat) (xs : List Int) (w : World) (hs : U32 s) (hr : RdB w A n xs) (ht : Table w) :
    Calls Tryd.prog 64 #[.int .u32 s, .slice A n c] w fun e w' => e = .returned (.int .u32 (add s xs)) ∧ w = w' := by
  have HR := Lib.hid hr
  have HT := Lib.hid ht
  have hn := hr.max
  clear hr ht hs
  go_enter Tryd.func64, Tryd.ntmps64
  go_wp2
  go_loop [5, 12] (fun r i => ∃ (k : Nat) (v : Int), k ≤ n ∧ i = .int .i64 k ∧ 0 ≤ v ∧ v ≤ 4294967295 ∧ r = .int .u32 v ∧ Aside0 (v = (xs.take k).foldl byt (flip s))) (fun _ i => n - (intOf i).toNat)
  case atStart => exact ⟨0, _, Nat.zero_le _, rfl, (U32_bits _ _ _).1, (U32_bits _ _ _).2, rfl, ⟨rfl⟩⟩
  case round =>
    obtain ⟨k, v, hk, rfl, hv0, hv1, rfl, HV⟩ := hrel
    by_cases hlt : k < n
    · obtain ⟨ad, rfl, hcell⟩ := HR.out.at_ k (by omega)
      have hb0 := (HR.out.2 k).1
      have hb1 := (HR.out.2 k).2
      have hstep := take_snoc xs k (by rw [HR.out.len]; exact hlt)
      generalize xs.getD k 0 = b at hcell hb0 hb1 hstep
      have HS := Aside0.mk hstep
      clear hstep
      have hq0 := (U32_bits .xor v b).1
      have hq1 := (U32_bits .xor v b).2
      go_wp2
      go_loop [5, 20] (fun r i => ∃ (j : Nat) (q : Int), j ≤ 2 ∧ i = .int .i64 j ∧ 0 ≤ q ∧ q ≤ 4294967295 ∧ r = .int .u32 q ∧ Aside0 (q = if j = 0 then xr v b else if j = 1 then nib (xr v b) else byt v b)) (fun _ i => 2 - (intOf i).toNat)
      case atStart => exact ⟨0, _, by omega, rfl, hq0, hq1, rfl, ⟨rfl⟩⟩
      case round =>
        obtain ⟨j, q, hj, rfl, q0, q1, rfl, HQ⟩ := hrel
        by_cases hj2 : j < 2
        · have hl := lo4_r q ⟨q0, q1⟩
          have hl0 : 0 ≤ lo4 q := by omega
          have hl1 : lo4 q ≤ 15 := by omega
          have ht := HT.out (lo4 q).toNat (by omega)
          have HN : Aside0 (nib q = xr (q / 16) (tab.getD (lo4 q).toNat 0)) := ⟨rfl⟩
          generalize tab.getD (lo4 q).toNat 0 = tv at ht HN
          clear hl
          unfold lo4 at ht hl0 hl1
          go_wp2
          go_round
          case rel => exact ⟨j + 1, nib q, by omega, by go_num, (U32_nib q).1, (U32_nib q).2, by rw [HN.out]; rfl, ⟨nib_step hj2 HQ.out⟩⟩
          case measure => simp [intOf]; omega
        · obtain rfl : j = 2 := by omega
          go_wp2
          go_round
          case rel => exact ⟨k + 1, q, by omega, by go_num, q0, q1, rfl, ⟨by rw [HS.out, List.foldl_append, ← HV.out, HQ.out]; rfl⟩⟩
          case measure => simp [intOf]; omega
    · obtain rfl : k = n := by omega
      have HF : Aside0 (v = xs.foldl byt (flip s)) := ⟨by rw [HV.out, List.take_of_length_le (by have := HR.out.len; omega)]⟩
      go_wp2
      go_ret
      exact ⟨by unfold add; rw [← HF.out]; rfl, rfl⟩


/-- j bit steps -/
def steps : Nat → Int → Int
  | 0, r => r
  | n + 1, r => bit (steps n r)
theorem steps_one {q v b : Int} {j : Nat} (h : q = steps j (xr v b)) : (Go.bits .and .u32 q 1 == 1) = true → xr (q / 2) 3988292384 = steps (j + 1) (xr v b) := by
  intro hb
  show _ = bit (steps j (xr v b))
  rw [← h]
  unfold bit lowbit
  rw [if_pos hb]
theorem steps_zero {q v b : Int} {j : Nat} (h : q = steps j (xr v b)) : (Go.bits .and .u32 q 1 == 1) = false → q / 2 = steps (j + 1) (xr v b) := by
  intro hb
  show _ = bit (steps j (xr v b))
  rw [← h]
  unfold bit lowbit
  rw [if_neg (by rw [hb]; decide)]

set_option maxHeartbeats 400000 in
theorem refadd_any (s : Int) (A : Option Addr) (n c : Nat) (xs : List Int) (w : World) (hr : RdB w A n xs) :
    Calls Tryd.prog 65 #[.int .u32 s, .slice A n c] w fun e w' => e = .returned (.int .u32 (refadd s xs)) ∧ w = w' := by
  have HR := Lib.hid hr
  have hn := hr.max
  clear hr
  go_enter Tryd.func65, Tryd.ntmps65
  go_wp2
  go_loop [5, 6] (fun r i => ∃ (k : Nat) (v : Int), k ≤ n ∧ i = .int .i64 k ∧ 0 ≤ v ∧ v ≤ 4294967295 ∧ r = .int .u32 v ∧ Aside0 (v = (xs.take k).foldl refbyt (flip s))) (fun _ i => n - (intOf i).toNat)
  case atStart => exact ⟨0, _, Nat.zero_le _, rfl, (U32_bits _ _ _).1, (U32_bits _ _ _).2, rfl, ⟨rfl⟩⟩
  case round =>
    obtain ⟨k, v, hk, rfl, hv0, hv1, rfl, HV⟩ := hrel
    by_cases hlt : k < n
    · obtain ⟨ad, rfl, hcell⟩ := HR.out.at_ k (by omega)
      have hb0 := (HR.out.2 k).1
      have hb1 := (HR.out.2 k).2
      have hstep := take_snoc xs k (by rw [HR.out.len]; exact hlt)
      generalize xs.getD k 0 = b at hcell hb0 hb1 hstep
      have HS := Aside0.mk hstep
      clear hstep
      have hq0 := (U32_bits .xor v b).1
      have hq1 := (U32_bits .xor v b).2
      go_wp2
      go_loop [5, 7] (fun r i => ∃ (j : Nat) (q : Int), j ≤ 8 ∧ i = .int .i64 j ∧ 0 ≤ q ∧ q ≤ 4294967295 ∧ r = .int .u32 q ∧ Aside0 (q = steps j (xr v b))) (fun _ i => 8 - (intOf i).toNat)
      case atStart => exact ⟨0, _, by omega, rfl, hq0, hq1, rfl, ⟨rfl⟩⟩
      case round =>
        obtain ⟨j, q, hj, rfl, q0, q1, rfl, HQ⟩ := hrel
        by_cases hj2 : j < 8
        · cases hbit : (Go.bits .and .u32 q 1 == 1)
          · have h2 := Aside0.mk (steps_zero HQ.out hbit)
            go_wp2
            go_round
            case rel => exact ⟨j + 1, q / 2, by omega, by go_num, by omega, by omega, rfl, h2⟩
            case measure => simp [intOf]; omega
          · have h2 := Aside0.mk (steps_one HQ.out hbit)
            go_wp2
            go_round
            case rel => exact ⟨j + 1, xr (q / 2) 3988292384, by omega, by go_num, (U32_xr _ _).1, (U32_xr _ _).2, rfl, h2⟩
            case measure => simp [intOf]; omega
        · obtain rfl : j = 8 := by omega
          go_wp2
          go_round
          case rel => exact ⟨k + 1, q, by omega, by go_num, q0, q1, rfl, ⟨by rw [HS.out, List.foldl_append, ← HV.out, HQ.out]; rfl⟩⟩
          case measure => simp [intOf]; omega
    · obtain rfl : k = n := by omega
      have HF : Aside0 (v = xs.foldl refbyt (flip s)) := ⟨by rw [HV.out, List.take_of_length_le (by have := HR.out.len; omega)]⟩
      go_wp2
      go_ret
      exact ⟨by unfold refadd; rw [← HF.out]; rfl, rfl⟩

theorem refsum_any (A : Option Addr) (n c : Nat) (xs : List Int) (w : World) (hr : RdB w A n xs) :
    Calls Tryd.prog 58 #[.slice A n c] w fun e w' => e = .returned (.int .u32 (refadd 0 xs)) ∧ w = w' := by
  have HR := Lib.hid hr
  clear hr
  go_enter Tryd.func58, Tryd.ntmps58
  go_wp2_with (go_at_call 65; refine (refadd_any _ _ _ _ xs _ HR.out).mono ?_; rintro e w' ⟨rfl, rfl⟩)
  go_ret
  exact ⟨rfl, rfl⟩
end Go.Proofs.YtfinaikgikifcaaDoor.crcw
/- What crc.Parts computes. -/
namespace Go.Proofs.YtfinaikgikifcaaDoor.crcw
open Go.RowKit Go.Proofs.YtfinaikgikifcaaDoorW.PrintWords Go.Proofs.YtfinaikgikifcaaDoor.base Go.Proofs.YtfinaikgikifcaaDoor.crcp

def parts (s : Int) (xss : List (List Int)) : Int := xss.foldl add s
theorem U32_parts (s : Int) (hs : U32 s) (xss : List (List Int)) : U32 (parts s xss) := by
  unfold parts
  induction xss generalizing s with
  | nil => exact hs
  | cons x xss ih => exact ih _ (U32_add _ _)

set_option maxHeartbeats 400000 in
theorem parts_any (A : Option Addr) (n c : Nat) (xss : List (List Int)) (w : World) (hr : RdBB w A n xss) (ht : Table w) :
    Calls Tryd.prog 54 #[.slice A n c] w fun e w' => e = .returned (.int .u32 (parts 0 xss)) ∧ w = w' := by
  have HR := Lib.hid hr
  have HT := Lib.hid ht
  have hn := hr.2.1
  clear hr ht
  go_enter Tryd.func54, Tryd.ntmps54
  go_wp2
  go_loop [3, 8] (fun r i => ∃ (k : Nat) (v : Int), k ≤ n ∧ i = .int .i64 k ∧ 0 ≤ v ∧ v ≤ 4294967295 ∧ r = .int .u32 v ∧ Aside0 (v = parts 0 (xss.take k))) (fun _ i => n - (intOf i).toNat)
  case atStart => exact ⟨0, 0, Nat.zero_le _, rfl, by omega, by omega, rfl, ⟨rfl⟩⟩
  case round =>
    obtain ⟨k, v, hk, rfl, hv0, hv1, rfl, HV⟩ := hrel
    by_cases hlt : k < n
    · obtain ⟨ad, rfl, a, m, c1, hcell, hmc, hrow⟩ := HR.out.at_ k (by omega)
      have HRow := Lib.hid hrow
      have HS := Aside0.mk (take_snoc2 xss k (by rw [HR.out.1]; exact hlt))
      clear hrow
      go_wp2_with (go_at_call 64; refine (add_any v _ _ _ _ _ ⟨hv0, hv1⟩ HRow.out HT.out).mono ?_; rintro e w' ⟨rfl, rfl⟩)
      go_round
      case rel => exact ⟨k + 1, _, by omega, by go_num, (U32_add _ _).1, (U32_add _ _).2, rfl, ⟨by rw [HS.out]; unfold parts; rw [List.foldl_append, HV.out]; rfl⟩⟩
      case measure => simp [intOf]; omega
    · obtain rfl : k = n := by omega
      have HF : Aside0 (v = parts 0 xss) := ⟨by rw [HV.out, List.take_of_length_le (by have := HR.out.1; omega)]⟩
      go_wp2
      go_ret
      exact ⟨by rw [← HF.out]; rfl, rfl⟩
end Go.Proofs.YtfinaikgikifcaaDoor.crcw
/- What frames are as bytes: plain laws. -/
namespace Go.Proofs.YtfinaikgikifcaaDoor.framep
open Go.RowKit Go.Proofs.YtfinaikgikifcaaDoorW.PrintWords Go.Proofs.YtfinaikgikifcaaDoor.base Go.Proofs.YtfinaikgikifcaaDoor.crcp Go.Proofs.YtfinaikgikifcaaDoor.crcw

/-- the word of four bytes, the lowest first -/
def w4 (xs : List Int) : Int := xs.getD 0 0 + xs.getD 1 0 * 256 + xs.getD 2 0 * 65536 + xs.getD 3 0 * 16777216
/-- a word's four bytes -/
def le4 (S : Int) : List Int := [S % 256, S / 256 % 256, S / 65536 % 256, S / 16777216]
theorem By_le4 {S : Int} (h : U32 S) : By (le4 S) := By_of _ fun z hz => by
  obtain ⟨h0, h1⟩ := h
  simp [le4] at hz
  omega
theorem w4_le4 {S : Int} (h : U32 S) (r : List Int) : w4 (le4 S ++ r) = S := by
  obtain ⟨h0, h1⟩ := h
  simp [w4, le4]
  omega
theorem By.getD {xs : List Int} (h : By xs) (i : Nat) : 0 ≤ xs.getD i 0 ∧ xs.getD i 0 ≤ 255 := by
  rw [List.getD_eq_getElem?_getD]
  rcases Nat.lt_or_ge i xs.length with hi | hi
  · rw [List.getElem?_eq_getElem hi]; exact h.mem _ (List.getElem_mem _)
  · rw [List.getElem?_eq_none hi]; simp
theorem w4_range {xs : List Int} (h : By xs) : U32 (w4 xs) := by
  have h0 := By.getD h 0
  have h1 := By.getD h 1
  have h2 := By.getD h 2
  have h3 := By.getD h 3
  unfold w4 U32
  omega
theorem w4_bits {a b c d : Int} (ha : 0 ≤ a ∧ a ≤ 255) (hb : 0 ≤ b ∧ b ≤ 255) (hc : 0 ≤ c ∧ c ≤ 255) (hd : 0 ≤ d ∧ d ≤ 255) :
    Go.bits .or .u32 (Go.bits .or .u32 (Go.bits .or .u32 a (b * 256)) (c * 65536)) (d * 16777216) = a + b * 256 + c * 65536 + d * 16777216 := by
  simp (disch := omega) only [u32_or8, u32_or16, u32_or24]
/-- how many bytes the frame has with which bytes begin; 0: none -/
def firstN (xs : List Int) : Nat := if xs.length < 8 then 0 else if 1048576 < (w4 xs).toNat ∨ xs.length - 8 < (w4 xs).toNat ∨ parts 0 [xs.take 4, (xs.drop 8).take (w4 xs).toNat] ≠ w4 (xs.drop 4) then 0 else 8 + (w4 xs).toNat
end Go.Proofs.YtfinaikgikifcaaDoor.framep
/- What frame.word and frame.first compute. -/
namespace Go.Proofs.YtfinaikgikifcaaDoor.framew
open Go.RowKit Go.Proofs.YtfinaikgikifcaaDoorW.PrintWords Go.Proofs.YtfinaikgikifcaaDoor.base Go.Proofs.YtfinaikgikifcaaDoor.mem Go.Proofs.YtfinaikgikifcaaDoor.crcp Go.Proofs.YtfinaikgikifcaaDoor.crcw Go.Proofs.YtfinaikgikifcaaDoor.samew Go.Proofs.YtfinaikgikifcaaDoor.framep

theorem word_any (A : Option Addr) (n c : Nat) (xs : List Int) (w : World) (hr : RdB w A n xs) (hn : 4 ≤ n) :
    Calls Tryd.prog 68 #[.slice A n c] w fun e w' => e = .returned (.int .u32 (w4 xs)) ∧ ∃ q, w' = w.drewN q := by
  obtain ⟨ad, e0, h0⟩ := hr.at_ 0 (by omega)
  subst e0
  obtain ⟨ad1, e1, h1⟩ := hr.at_ 1 (by omega)
  obtain ⟨ad2, e2, h2⟩ := hr.at_ 2 (by omega)
  obtain ⟨ad3, e3, h3⟩ := hr.at_ 3 (by omega)
  injection e1 with e1
  injection e2 with e2
  injection e3 with e3
  subst e1 e2 e3
  have b0 := By.getD hr.2 0
  have b1 := By.getD hr.2 1
  have b2 := By.getD hr.2 2
  have b3 := By.getD hr.2 3
  have HE : Hid (w4 xs = xs.getD 0 0 + xs.getD 1 0 * 256 + xs.getD 2 0 * 65536 + xs.getD 3 0 * 16777216) := Lib.hid rfl
  generalize xs.getD 0 0 = x0 at h0 b0 HE
  generalize xs.getD 1 0 = x1 at h1 b1 HE
  generalize xs.getD 2 0 = x2 at h2 b2 HE
  generalize xs.getD 3 0 = x3 at h3 b3 HE
  have hs : ad.spot = none := by
    have := World.cell?_spot h0
    simpa [Addr.add] using this
  obtain ⟨b, off, sp⟩ := ad
  subst hs
  have ap : ∀ k, (⟨b, off, none⟩ : Addr).add k = ⟨b, off + k, none⟩ := fun k => by unfold Addr.add; split <;> simp_all
  rw [ap] at h0 h1 h2 h3
  have l0 : 0 < n := by omega
  have l1 : 1 < n := by omega
  have l2 : 2 < n := by omega
  have l3 : 3 < n := by omega
  have h0 : w.cell? ⟨b, off, none⟩ = some (.int .u8 x0) := h0
  clear hr ap
  go_enter Tryd.func68, Tryd.ntmps68
  go_wp2
  go_region
  go_wp2
  go_ret
  exact ⟨by rw [HE.out, ← w4_bits b0 b1 b2 b3]; rfl, _, rfl⟩
set_option maxHeartbeats 1000000 in
theorem first_any (A : Option Addr) (n c : Nat) (xs : List Int) (w : World) (hr : RdB w A n xs) (hc : n ≤ c) (ht : Table w) :
    Calls Tryd.prog 63 #[.slice A n c] w fun e w' => e = .returned (.int .i64 (firstN xs : Nat)) ∧ Below w.heap.size w w' := by
  have HR := Lib.hid hr
  have HT := Lib.hid ht
  have hlen := hr.len
  have hmax := hr.max
  have hU := w4_range hr.2
  have hU4 := w4_range (hr.2.drop 4)
  clear hr ht
  by_cases h8 : n < 8
  · have HF : Hid (firstN xs = 0) := Lib.hid (by unfold firstN; rw [if_pos (by omega)])
    go_enter Tryd.func63, Tryd.ntmps63
    go_wp2
    go_ret
    exact ⟨by rw [HF.out]; rfl, Below.refl _ _⟩
  have HW := Lib.hid (word_any A n c xs w HR.out (by omega))
  have HFdef : Hid (firstN xs = if 1048576 < (w4 xs).toNat ∨ xs.length - 8 < (w4 xs).toNat ∨ parts 0 [xs.take 4, (xs.drop 8).take (w4 xs).toNat] ≠ w4 (xs.drop 4) then 0 else 8 + (w4 xs).toNat) := Lib.hid (by unfold firstN; rw [if_neg (by omega)])
  obtain ⟨v, hv⟩ := Int.eq_ofNat_of_zero_le hU.1
  have hv1 : v ≤ 4294967295 := by have := hU.2; omega
  rw [hv] at HW HFdef
  have HFdef : Hid (firstN xs = if 1048576 < v ∨ n - 8 < v ∨ parts 0 [xs.take 4, (xs.drop 8).take v] ≠ w4 (xs.drop 4) then 0 else 8 + v) := Lib.hid (by rw [HFdef.out, hlen]; rfl)
  clear hv hU
  by_cases hbig : 1048576 < v
  · have HF : Hid (firstN xs = 0) := Lib.hid (by rw [HFdef.out, if_pos (.inl hbig)])
    have hb : decide ((1048576 : Int) < (v : Int)) = true := decide_eq_true (by omega)
    have hbn : decide (1048576 < v) = true := decide_eq_true hbig
    go_enter Tryd.func63, Tryd.ntmps63
    go_wp2_with fail
    refine HW.out.mono ?_
    rintro e w1 ⟨rfl, q, rfl⟩
    go_wp2_with fail
    go_quiet (fail)
    go_wp2
    go_ret
    exact ⟨by rw [HF.out]; rfl, pw_below_drewN (pw_below_drewN (Below.refl _ _) _) _⟩
  by_cases hlong : n - 8 < v
  · have HF : Hid (firstN xs = 0) := Lib.hid (by rw [HFdef.out, if_pos (.inr (.inl hlong))])
    have hb : decide ((1048576 : Int) < (v : Int)) = false := decide_eq_false (by omega)
    have hbn : decide (1048576 < v) = false := decide_eq_false hbig
    have hb2 : decide (((n : Int) - 8) < (v : Int)) = true := decide_eq_true (by omega)
    go_enter Tryd.func63, Tryd.ntmps63
    go_wp2_with fail
    refine HW.out.mono ?_
    rintro e w1 ⟨rfl, q, rfl⟩
    go_wp2_with fail
    go_quiet (fail)
    go_wp2
    go_ret
    exact ⟨by rw [HF.out]; rfl, pw_below_drewN (pw_below_drewN (Below.refl _ _) _) _⟩
  have hb : decide ((1048576 : Int) < (v : Int)) = false := decide_eq_false (by omega)
  have hbn : decide (1048576 < v) = false := decide_eq_false hbig
  have hb2 : decide (((n : Int) - 8) < (v : Int)) = false := decide_eq_false (by omega)
  obtain ⟨A8, n8, c8, hcut8, a1, a2, a3, hrd8⟩ := cutLH A n c 8 (8 + v) (by omega) (by omega) hc
  obtain ⟨A4, n4, c4, hcut4, d1, d2, d3, hrd4⟩ := cutL A n c 4 (by omega) hc
  have e8 : ((8 + v : Nat) : Int) = 8 + (v : Int) := by omega
  have hcut8 : ∀ W : World, (Instr.slice 22 (.slice A n c) (some (.int .i64 8)) (some (.int .i64 (8 + (v : Int)))) none).run Tryd.prog W = .ok (.slice A8 n8 c8) W := fun W => by have := hcut8 W; rw [e8] at this; exact this
  have hcut4 : ∀ W : World, (Instr.slice 22 (.slice A n c) (some (.int .i64 4)) none none).run Tryd.prog W = .ok (.slice A4 n4 c4) W := hcut4
  have h4c : 4 ≤ c := by omega
  have h4i : (4 : Int) ≤ (c : Int) := by omega
  have hwd : v ≤ 9223372036854775807 := by omega
  go_enter Tryd.func63, Tryd.ntmps63
  go_wp2_with fail
  refine HW.out.mono ?_
  rintro e w1 ⟨rfl, q, rfl⟩
  go_wp2_with fail
  have hw1 : IntKind.i64.wrap (v : Int) = v := by rw [IntKind.wrap_i64]; omega
  have hw2 : IntKind.i64.wrap ((n : Int) - 8) = (n : Int) - 8 := by rw [IntKind.wrap_i64]; omega
  have hw3 : IntKind.i64.wrap (8 + (v : Int)) = 8 + (v : Int) := by rw [IntKind.wrap_i64]; omega
  have RR : Hid (∀ W : World, W.heap.size = w.heap.size → RdB W A n xs → RdBB (W.alloc (.cells #[.slice A 4 c, .slice A8 n8 c8] 22)) (some ⟨w.heap.size, 0, none⟩) 2 [xs.take 4, (xs.drop 8).take v]) := Lib.hid fun W hW h => by
    have h1 := h.take 4 (by omega)
    have h2 := hrd8 W xs h
    have e : (xs.take (8 + v)).drop 8 = (xs.drop 8).take v := by rw [List.drop_take]; congr 1; omega
    rw [e] at h2
    have := rows2 h1 h4c h2 a3 22
    rw [hW] at this
    exact this
  have RA : Hid (∀ q, RdB (w.drewN q).drew A n xs ∧ Table (w.drewN q).drew) := Lib.hid fun q => ⟨(HR.out.drawn q).below (Below.refl _ _).drew, (HT.out.below (pw_below_drewN (Below.refl _ _) q)).below (Below.refl _ _).drew⟩
  have BA : Hid (∀ q, Below w.heap.size w ((w.drewN q).drew.alloc (.cells #[.slice A 4 c, .slice A8 n8 c8] 22))) := Lib.hid fun q => ((pw_below_drewN (Below.refl w.heap.size w) q).drew).alloc (by simp) _
  have HU4 := Lib.hid hU4
  generalize hps : parts 0 [xs.take 4, (xs.drop 8).take v] = ps at HFdef
  have HPS := Lib.hid hps
  clear hps hU4
  go_region_held3 (fun _ => True) (trivial) (first | (go_at_call 54; refine (parts_any _ _ _ _ _ (RR.out _ (by simp) (RA.out _).1) (((RA.out _).2).below (below_alloc (Below.refl _ _) _))).mono ?_; rintro e w5 ⟨rfl, rfl⟩; rw [HPS.out]) | (go_at_call 68; refine (word_any _ _ _ _ _ (hrd4 _ _ (((RA.out _).1).below (below_alloc (Below.refl _ _) _))) (by omega)).mono ?_; rintro e w6 ⟨rfl, q6, rfl⟩))
  clear hw1 hw2 hw3
  have hBfin := Lib.hid (pw_below_drewN (pw_below_drewN (Below.refl w.heap.size w) (q + 1) |>.alloc (by simp) (.cells #[.slice A 4 c, .slice A8 n8 c8] 22)) q6)
  obtain ⟨z, hz⟩ : ∃ z, w4 (xs.drop 4) = z := ⟨_, rfl⟩
  rw [hz] at HFdef ⊢
  by_cases he : ps = z
  · have HF : Hid (firstN xs = 8 + v) := Lib.hid (by rw [HFdef.out, if_neg (by intro h; rcases h with h | h | h; exact hbig h; exact hlong h; exact h he)])
    have hne : (ps != z) = false := by simpa using he
    clear he
    go_wp2
    go_ret
    exact ⟨by rw [HF.out]; exact congrArg (fun t => Ending.returned (.int .i64 t)) (by omega), hBfin.out⟩
  · have HF : Hid (firstN xs = 0) := Lib.hid (by rw [HFdef.out, if_pos (.inr (.inr he))])
    have hne : (ps != z) = true := by simpa using he
    clear he
    go_wp2
    go_ret
    exact ⟨by rw [HF.out]; rfl, hBfin.out⟩
end Go.Proofs.YtfinaikgikifcaaDoor.framew
/- A range over a function whose rounds are told what they are handed: the law of the statement with a word on the round's values. -/
namespace Go.Proofs.YtfinaikgikifcaaDoor.over
open Go.RowKit
variable {F : Fence} {n : Nat} {P : Program} {α : Type}

/-- the loop's record, and the block for its rounds' deferred calls -/
structure RecAt (R : Loop) (d l : Nat) (W : World) : Prop where
  loop : W.heap[l]? = some (.loop R)
  defd : W.heap[d]? = some (.deferred (some []))
theorem RecAt.put {R : Loop} {d l : Nat} {W : World} (h : RecAt R d l W) (hne : d ≠ l) (R' : Loop) : RecAt R' d l (W.putObj l (.loop R')) :=
  ⟨World.putObj_heap_same (Array.getElem?_eq_some_iff.1 h.loop).1, (World.putObj_heap_other hne).trans h.defd⟩
theorem RecAt.keeps {R : Loop} {d l B : Nat} {W W' : World} (h : RecAt R d l W) (hk : KeepsFrom B W W') (hd : B ≤ d) (hl : B ≤ l) : RecAt R d l W' :=
  ⟨hk.same _ _ hl h.loop rfl, hk.same _ _ hd h.defd rfl⟩
theorem RecAt.abides {B : Nat} {R : Loop} {d l : Nat} {W W' : World} {row : Option Nat} (h : RecAt R d l W) (hg : W.grownBy W' row) (hr : ∀ r, row = some r → B ≤ r ∧ ∃ o : Obj, W.heap[r]? = some o ∧ o.isWalk = true) : RecAt R d l W' :=
  ⟨(grownBy_keeps hg (fun r e => (hr r e).2) h.loop rfl).trans h.loop, (grownBy_keeps hg (fun r e => (hr r e).2) h.defd rfl).trans h.defd⟩

/-- the cells of a world stand in a later one -/
def CK (A B : World) : Prop := A.heap.size ≤ B.heap.size ∧ ∀ (i : Nat) (o : Obj), A.heap[i]? = some o → o.isCells = true → B.heap[i]? = some o
theorem CK.of_below {A B : World} (h : Below A.heap.size A B) : CK A B := ⟨h.size, fun i o ho _ => by rw [h.block i (Array.getElem?_eq_some_iff.1 ho).1]; exact ho⟩
theorem CK.put {A B : World} (h : CK A B) {l : Nat} {o : Obj} (o' : Obj) (hl : B.heap[l]? = some o) (ho : o.isCells = false) : CK A (B.putObj l o') :=
  ⟨by simpa using h.1, fun i z hz hc => by
    have h1 := h.2 i z hz hc
    have hne : i ≠ l := by intro e; subst e; rw [hl] at h1; injection h1 with h1; subst h1; rw [ho] at hc; cases hc
    exact (World.putObj_heap_other hne).trans h1⟩
theorem CK.cell {A B : World} (h : CK A B) {a : Addr} {v : Value} (hc : A.cell? a = some v) : B.cell? a = some v := by
  obtain ⟨o, ho, hk⟩ := cells_of_cell hc
  rw [← hc]
  exact World.cell?_of_block ((h.2 _ _ ho hk).trans ho.symm)
/-- the iterator's contract: V: what it tells a round of the value it hands over; B: all new memory since its call -/
def SeqV (F : Fence) (n : Nat) (P : Program) (g : Nat) (lb : Array Value) (encs : α → Array Value) (Kp : World → World → Prop) (V : Nat → List α → α → World → Prop) (S Sp : List α → Prop) (w : World) : Prop :=
  ∀ (l : Nat) (J Jx : List α → World → Prop) (W : World), Below w.heap.size w W → AbidesFrom W.heap.size J → AbidesFrom W.heap.size Jx →
    (∀ pre x W0 W1, J pre W0 → J pre W1 → W.heap.size ≤ W0.heap.size → CK W0 W1 → V W0.heap.size pre x W1 → YieldAt F (n - 1) P l (encs x) W1 fun e W' =>
      (e = .returned (.bool true) ∧ J (pre ++ [x]) W' ∧ Kp W1 W') ∨ (e = .returned (.bool false) ∧ Jx (pre ++ [x]) W')) →
    J [] W →
    CallsIn F n P g (#[.func (.yield l) #[] #[]] ++ lb) W fun e W' => (∃ v, e = .returned v) ∧ ((∃ xs, S xs ∧ J xs W') ∨ (∃ pre, Sp pre ∧ Jx pre W'))
theorem SeqV.stops {g : Nat} {lb : Array Value} {encs : α → Array Value} {Kp : World → World → Prop} {V : Nat → List α → α → World → Prop} {S Sp : List α → Prop} {w : World} {N : Nat}
    (h : SeqV F n P g lb encs Kp V S Sp w) (hN : ∀ B pre x W, V B pre x W → pre.length < N) : SeqStopsK F n P g lb encs Kp S Sp N w :=
  fun l J Jx W hW hJ hJx hY h0 => h l J Jx W hW hJ hJx (fun pre x W0 W1 _ hj _ _ hv => hY pre x W1 hj (hN _ _ _ _ hv)) h0

/-- a round -/
theorem yieldAt_of {m : Nat} {R : Loop} {d l : Nat} {W : World} (h : RecAt R d l W) (hr : R.state = .ready) (hF : F.fn R.fn) {args : Array Value} (hs : args.size = R.params.size) (a₁ : Act) (T : Exit → Act → World → Prop) (Rp : Ending → World → Prop)
    (hassign : ∀ K : Act → World → Prop, K a₁ W → R.assign.wpIn (F.inRound l) m P (Exit.then K (fun _ _ _ => False)) { tmps := (R.params.zip args).foldl (fun tmps (t, a) => tmps.setIfInBounds t a) R.tmps, defers := [] } W)
    (hbody : R.body.wpIn (F.inRound l) m P T a₁ (W.putObj l (.loop { R with state := .busy }))) (hT : ∀ e a W3, T e a W3 → roundPost P l Rp e a W3) : YieldAt F m P l args W Rp :=
  ⟨_, _, _, _, run_yield h.loop hs, roundIn_of_wpIn hF (hassign _ ⟨_, run_beginRound h.loop hr, wpIn_mono hbody hT⟩)⟩
/-- the statement -/
theorem wpIn_overV {g : Operand} {ps : Array Tmp} {assign body : Code} {Q : Exit → Act → World → Prop} {a : Act} {w : World}
    (hro : F.round = none) (h1 : 1 ≤ n) {gf : Nat} {lb : Array Value} (hg : a.eval g = .func (.func gf) #[] lb) (hFg : F.fn gf) (eg : ∀ args w, (callFunc gf args).run P w = .ok (.enter gf args) w)
    {encs : α → Array Value} {Kp : World → World → Prop} {V : Nat → List α → α → World → Prop} {S Sp : List α → Prop} {w0 : World} (hseq : SeqV F (n - 1) P gf lb encs Kp V S Sp w0)
    (hKt : ∀ {A B C : World}, Kp A B → Kp B C → Kp A C) (hKb : ∀ (W : World) (l : Nat) (o o' : Obj), w.heap.size ≤ l → W.heap[l]? = some o → o.isCells = false → o.isWalk = false → Kp W (W.putObj l o')) (hb0 : Below w0.heap.size w0 w) (hps : ∀ x, (encs x).size = ps.size)
    (hV : ∀ B, OwnFrom w.heap.size (fun (z : List α × α) W => V B z.1 z.2 W))
    (I : List α → World → Prop) (Ix : Code → List α → World → Prop) (hI : OwnFrom w.heap.size I) (hIx : ∀ c, OwnFrom w.heap.size (Ix c)) (h0 : I [] w) (a₁ : α → Act)
    (hassign : ∀ (l : Nat) (x : α) (W : World) (K : Act → World → Prop), K (a₁ x) W →
      assign.wpIn (F.inRound l) (n - 1 - 1) P (Exit.then K (fun _ _ _ => False)) { tmps := (ps.zip (encs x)).foldl (fun t (p, v) => t.setIfInBounds p v) a.tmps, defers := [] } W)
    (hbody : ∀ (l : Nat) (pre : List α) (x : α) (W0 W : World), I pre W0 → I pre W → w.heap.size ≤ W0.heap.size → CK W0 W → V W0.heap.size pre x W → body.wpIn (F.inRound l) (n - 1 - 1) P (ownPostG w.heap.size Kp I Ix (pre ++ [x]) W) (a₁ x) W)
    (hdone : ∀ (D : Nat) (xs : List α) (W : World), w.heap.size ≤ D → S xs → I xs W → W.heap[D]? = some (.deferred (some [])) → Q .normal { a with defers := { target := .collected D, args := #[] } :: a.defers } W)
    (hstop : ∀ (D : Nat) (c : Code) (pre : List α) (W : World), w.heap.size ≤ D → Sp pre → Ix c pre W → W.heap[D]? = some (.deferred (some [])) → c.wpIn F n P Q { a with defers := { target := .collected D, args := #[] } :: a.defers } W) :
    (Code.rangeFunc g ps assign body).wpIn F n P Q a w := by
  refine wpIn_rangeFunc fun fn hfn => ?_
  rw [hro]
  refine ⟨_, _, ((w.alloc (.deferred (some []))).alloc (.loop { state := .ready, pending := none, fn, tmps := a.tmps, params := ps, assign, body, defers := w.heap.size })), { target := .fn (.func gf) lb, args := #[.func (.yield (w.heap.size + 1)) #[] #[]] }, ((w.alloc (.deferred (some []))).alloc (.loop { state := .ready, pending := none, fn, tmps := a.tmps, params := ps, assign, body, defers := w.heap.size })), gf, #[.func (.yield (w.heap.size + 1)) #[] #[]] ++ lb, ((w.alloc (.deferred (some []))).alloc (.loop { state := .ready, pending := none, fn, tmps := a.tmps, params := ps, assign, body, defers := w.heap.size })), run_enterLoop_outer fn a.tmps ps assign body, by simp only [resolve, hg]; simp [go_sem], ?_, by simp [invoke, go_sem, eg], fun _ => h1, ?_⟩
  · intro f' hf'
    simp [Target.leads] at hf'
    subst hf'
    exact hFg
  have hdl : w.heap.size ≠ w.heap.size + 1 := by omega
  have hB0 : Below w.heap.size w ((w.alloc (.deferred (some []))).alloc (.loop { state := .ready, pending := none, fn, tmps := a.tmps, params := ps, assign, body, defers := w.heap.size })) :=
    ((Below.refl _ w).alloc (Nat.le_refl _) _).alloc (by simp) _
  have hA0 : RecAt { state := .ready, pending := none, fn, tmps := a.tmps, params := ps, assign, body, defers := w.heap.size } w.heap.size (w.heap.size + 1) ((w.alloc (.deferred (some []))).alloc (.loop { state := .ready, pending := none, fn, tmps := a.tmps, params := ps, assign, body, defers := w.heap.size })) := by
    refine ⟨?_, (Below.heap_alloc _ _ _ (by simp)).trans (World.alloc_heap_new w _)⟩
    have := World.alloc_heap_new (w.alloc (.deferred (some []))) (.loop { state := .ready, pending := none, fn, tmps := a.tmps, params := ps, assign, body, defers := w.heap.size })
    rwa [World.size_alloc] at this
  have hz0 : ((w.alloc (.deferred (some []))).alloc (.loop { state := .ready, pending := none, fn, tmps := a.tmps, params := ps, assign, body, defers := w.heap.size })).heap.size = w.heap.size + 1 + 1 := by simp
  have hi0 := hI.alloc (.loop { state := .ready, pending := none, fn, tmps := a.tmps, params := ps, assign, body, defers := w.heap.size }) (hI.alloc (.deferred (some [])) h0)
  generalize (w.alloc (.deferred (some []))).alloc (.loop { state := .ready, pending := none, fn, tmps := a.tmps, params := ps, assign, body, defers := w.heap.size }) = w1 at hB0 hA0 hz0 hi0 ⊢
  have hrow : ∀ {A : World} {row : Option Nat}, (∀ r, row = some r → w1.heap.size ≤ r ∧ ∃ o : Obj, A.heap[r]? = some o ∧ o.isWalk = true) → (∀ r, row = some r → w.heap.size ≤ r ∧ ∃ o : Obj, A.heap[r]? = some o ∧ o.isCells = false) := fun hr r e => by
    obtain ⟨h1, o, ho, hw⟩ := hr r e
    exact ⟨by omega, o, ho, Obj.not_cells_of_walk hw⟩
  refine (hseq (w.heap.size + 1)
    (fun pre W => I pre W ∧ RecAt { state := .ready, pending := none, fn, tmps := a.tmps, params := ps, assign, body, defers := w.heap.size } w.heap.size (w.heap.size + 1) W)
    (fun pre W => ∃ c, Ix c pre W ∧ RecAt { state := .done, pending := some c, fn, tmps := a.tmps, params := ps, assign, body, defers := w.heap.size } w.heap.size (w.heap.size + 1) W) w1 (hb0.trans (hB0.mono hb0.size))
    (fun s A B row hs hg' hr => ⟨hI s A B row hs.1 hg' (hrow (A := A) hr), hs.2.abides hg' hr⟩)
    (fun s A B row hs hg' hr => by obtain ⟨c, hc, hl⟩ := hs; exact ⟨c, hIx c s A B row hc hg' (hrow (A := A) hr), hl.abides hg' hr⟩) ?_ ⟨hi0, hA0⟩).mono ?_
  · rintro pre x W0 W ⟨hj0, _⟩ ⟨hi, hA⟩ hz hck hv
    have hbz := hA.put hdl { state := .busy, pending := none, fn, tmps := a.tmps, params := ps, assign, body, defers := w.heap.size }
    refine yieldAt_of hA rfl hfn (hps x) (a₁ x) _ _ (fun K hK => hassign _ x W K hK) (hbody _ pre x W0 _ hj0 (hI.putObj _ hi (by omega) hA.loop rfl) (by omega) (hck.put _ hA.loop rfl) ((hV W0.heap.size).putObj (s := (pre, x)) _ hv (by omega) hA.loop rfl)) ?_
    intro e a3 W3 hp
    cases e with
    | normal =>
      obtain ⟨hk, hkp, hi3⟩ := hp
      have h3 := hbz.keeps hk (Nat.le_refl _) (by omega)
      exact ⟨_, _, run_endRound none h3.loop, .inl ⟨rfl, ⟨hI.putObj _ hi3 (by omega) h3.loop rfl, h3.put hdl _⟩, hKt (hKt (hKb _ _ _ _ (by omega) hA.loop rfl rfl) hkp) (hKb _ _ _ _ (by omega) h3.loop rfl rfl)⟩⟩
    | ret =>
      obtain ⟨hk, hi3⟩ := hp
      have h3 := hbz.keeps hk (Nat.le_refl _) (by omega)
      exact ⟨_, _, run_endRound (some .ret) h3.loop, .inr ⟨rfl, .ret, (hIx _).putObj _ hi3 (by omega) h3.loop rfl, h3.put hdl _⟩⟩
    | exit id =>
      obtain ⟨hk, hi3⟩ := hp
      have h3 := hbz.keeps hk (Nat.le_refl _) (by omega)
      exact ⟨_, _, run_endRound (some (.exit id)) h3.loop, .inr ⟨rfl, .exit id, (hIx _).putObj _ hi3 (by omega) h3.loop rfl, h3.put hdl _⟩⟩
    | goto t =>
      obtain ⟨hk, hi3⟩ := hp
      have h3 := hbz.keeps hk (Nat.le_refl _) (by omega)
      exact ⟨_, _, run_endRound (some (.goto t)) h3.loop, .inr ⟨rfl, .goto t, (hIx _).putObj _ hi3 (by omega) h3.loop rfl, h3.put hdl _⟩⟩
    | panic ch => exact hp.elim
    | outgrown => exact hp.elim
  · rintro e W2 ⟨⟨v, rfl⟩, ⟨xs, hS, hi, hA⟩ | ⟨pre, hSp, c, hi, hA⟩⟩
    · exact ⟨none, _, run_endLoop hA.loop (by simp), hdone _ xs _ (Nat.le_refl _) hS (hI.putObj _ hi (by omega) hA.loop rfl) (hA.put hdl { state := .exhausted, pending := none, fn, tmps := a.tmps, params := ps, assign, body, defers := w.heap.size }).defd⟩
    · exact ⟨some c, _, run_endLoop hA.loop (by simp), hstop _ c pre _ (Nat.le_refl _) hSp ((hIx c).putObj _ hi (by omega) hA.loop rfl) (hA.put hdl { state := .exhausted, pending := some c, fn, tmps := a.tmps, params := ps, assign, body, defers := w.heap.size }).defd⟩
end Go.Proofs.YtfinaikgikifcaaDoor.over
/- The iterator of frame.Frames has its contract (places and lengths); frame.End. -/
namespace Go.Proofs.YtfinaikgikifcaaDoor.frameit
open Go.RowKit Go.Shelf Go.Proofs.YtfinaikgikifcaaDoorW.PrintWords Go.Proofs.YtfinaikgikifcaaDoor.base Go.Proofs.YtfinaikgikifcaaDoor.mem Go.Proofs.YtfinaikgikifcaaDoor.crcp Go.Proofs.YtfinaikgikifcaaDoor.crcw Go.Proofs.YtfinaikgikifcaaDoor.samew Go.Proofs.YtfinaikgikifcaaDoor.keep Go.Proofs.YtfinaikgikifcaaDoor.framep Go.Proofs.YtfinaikgikifcaaDoor.framew Go.Proofs.YtfinaikgikifcaaDoor.over
attribute [local go_sem] Oper.semAt_some

/-- the function value's own bytes, in a band of the heap -/
def NumsAt (lo hi : Nat) (W : World) (Bs : Nat) (xs : List Int) : Prop := lo ≤ Bs ∧ Bs < hi ∧ ∃ A n c, W.cell? ⟨Bs, 0, none⟩ = some (.slice A n c) ∧ n ≤ c ∧ n ≤ 140737488355328 ∧ RdB W A n xs ∧ Lies lo hi A n
theorem bandCell {lo hi b i : Nat} {w w' : World} {v : Value} (h : Band lo hi w w') (h1 : lo ≤ b) (h2 : b < hi) (hc : w.cell? ⟨b, i, none⟩ = some v) : w'.cell? ⟨b, i, none⟩ = some v := by
  rw [← hc]; exact World.cell?_of_block (by exact h.2 b h1 h2)
theorem bandTrans {lo hi : Nat} {w w1 w2 : World} (h : Band lo hi w w1) (k : Band lo hi w1 w2) : Band lo hi w w2 := ⟨k.1, fun i a b => (k.2 i a b).trans (h.2 i a b)⟩
theorem band_put {lo hi : Nat} {w : World} (hw : hi ≤ w.heap.size) (W : World) (l : Nat) (o o' : Obj) (hl : w.heap.size ≤ l) (ho : W.heap[l]? = some o) (_ : o.isCells = false) (_ : o.isWalk = false) : Band lo hi W (W.putObj l o') := by
  have hlt := (Array.getElem?_eq_some_iff.1 ho).1
  refine ⟨?_, fun i _ b => ?_⟩
  · have : (W.putObj l o').heap.size = W.heap.size := by simp [World.putObj]
    omega
  · have : i ≠ l := by omega
    simp [World.putObj, this, Ne.symm this]
theorem NumsAt.band {lo hi Bs : Nat} {W W' : World} {xs : List Int} (h : NumsAt lo hi W Bs xs) (hb : Band lo hi W W') : NumsAt lo hi W' Bs xs := by
  obtain ⟨h0, h1, A, n, c, h2, h3, h4, h5, h6⟩ := h
  exact ⟨h0, h1, A, n, c, bandCell hb h0 h1 h2, h3, h4, RdB.band h5 h6 hb, h6⟩

theorem firstN_le (xs : List Int) : firstN xs ≤ xs.length := by
  unfold firstN
  split
  · omega
  · split
    · omega
    · rename_i h1 h2
      have : ¬ xs.length - 8 < (w4 xs).toNat := fun h => h2 (.inr (.inl h))
      omega
theorem firstN_ge (xs : List Int) (h : firstN xs ≠ 0) : 8 ≤ firstN xs := by
  unfold firstN at h ⊢
  split
  · rename_i h1; rw [if_pos h1] at h; exact absurd rfl h
  · rename_i h1
    rw [if_neg h1] at h
    split
    · rename_i h2; rw [if_pos h2] at h; exact absurd rfl h
    · omega
/-- places and payloads' lengths of the good frames -/
def fitems : Nat → Nat → List Int → List (Nat × Nat)
  | 0, _, _ => []
  | f + 1, p, xs => if firstN xs = 0 then [] else (p, firstN xs - 8) :: fitems f (p + firstN xs) (xs.drop (firstN xs))
theorem fitems_end (f p : Nat) (xs : List Int) (h : firstN xs = 0) : fitems f p xs = [] := by
  cases f with
  | zero => rfl
  | succ f => rw [fitems, if_pos h]
theorem fitems_next (f p : Nat) (xs : List Int) (h : firstN xs ≠ 0) : fitems (f + 1) p xs = (p, firstN xs - 8) :: fitems f (p + firstN xs) (xs.drop (firstN xs)) := by rw [fitems, if_neg h]
def flist (xs : List Int) : List (Nat × Nat) := fitems xs.length 0 xs
/-- what a round is handed -/
structure It where
  p : Nat
  A : Option Addr
  n : Nat
  c : Nat
  hp : p ≤ 140737488355328
  hn : n ≤ 140737488355328
def It.key (x : It) : Nat × Nat := (x.p, x.n)
abbrev encs (x : It) : Array Value := #[.int .i64 (x.p : Int), .slice x.A x.n x.c]
theorem eqlNil (A : Option Addr) (n c : Nat) (W : World) : (binOp .eql 22 (.slice A n c) (.slice none 0 0)).run Tryd.prog W = .ok (.bool A.isNone) W := by
  simp only [binOp]
  simp [run_equal_slice_nil W 22 5 A n c Tryd.underlying22]
theorem clone_any (A : Option Addr) (n c : Nat) (xs : List Int) (w : World) (hr : RdB w A n xs) (hn : n ≤ 140737488355328) :
    Calls Tryd.prog 31 #[.slice A n c] w fun e w' => ∃ A1 n1 c1, e = .returned (.slice A1 n1 c1) ∧ OwB w' w.heap.size A1 n1 c1 xs ∧ Below w.heap.size w w' := by
  have HR := Lib.hid hr
  have R0 := Lib.hid (Below.refl w.heap.size w)
  cases A with
  | none =>
    have h0 : n = 0 := by
      rcases Nat.eq_zero_or_pos n with h | h
      · exact h
      · obtain ⟨ad, he, _⟩ := hr.at_ 0 h; cases he
    subst h0
    obtain rfl : xs = [] := List.eq_nil_of_length_eq_zero hr.len
    clear hr
    go_enter Tryd.func31, Tryd.ntmps31
    have hen := fun W => eqlNil none 0 c W
    go_wp2
    go_ret
    exact ⟨none, 0, 0, rfl, OwB.nil _ _, Below.refl _ _⟩
  | some ad =>
    clear hr
    go_enter Tryd.func31, Tryd.ntmps31
    have hen := fun W => eqlNil (some ad) n c W
    go_wp2_with (first | (at_builtin; refine app (w0 := w) (base := w.heap.size) rfl (.tmp 5) (.tmp 6) rfl rfl rfl (OwB.lit0 w _ (Nat.le_refl _)) (HR.out.below (R0.out.alloc (Nat.le_refl _) _)) (R0.out.alloc (Nat.le_refl _) _) ?s2 ?l2 ?_; (case s2 => simp); (case l2 => omega); intro A2 n2 c2 w2 ho hb; have hl := ho.len; rw [List.nil_append] at ho; rw [List.nil_append, HR.out.len] at hl; subst hl; have HO2 := Lib.hid ho; have HB2 := Lib.hid hb; clear ho hb))
    go_ret
    exact ⟨A2, n, c2, rfl, HO2.out, HB2.out⟩
def RetF (w : World) (xs : List Int) (e : Ending) (w' : World) : Prop := ∃ Bs, e = .returned (.func (.func 62) #[] #[.pointer (some ⟨Bs, 0, none⟩)]) ∧ NumsAt w.heap.size w'.heap.size w' Bs xs ∧ Below w.heap.size w w'
theorem frames_any (A : Option Addr) (n c : Nat) (xs : List Int) (w : World) (hr : RdB w A n xs) (hn : n ≤ 140737488355328) :
    Calls Tryd.prog 50 #[.slice A n c] w (RetF w xs) := by
  have HC := Lib.hid (clone_any A n c xs w hr hn)
  have hl := hr.len
  clear hr
  go_enter Tryd.func50, Tryd.ntmps50
  go_wp2_with fail
  refine HC.out.mono ?_
  rintro e w2 ⟨A2, n2, c2, rfl, ho, hb⟩
  have hl2 := ho.len
  have HO2 := Lib.hid ho
  have HB2 := Lib.hid hb
  clear ho hb
  go_wp2
  go_ret
  refine ⟨w2.heap.size, rfl, ⟨HB2.out.size, by simp, A2, n2, c2, by simp, HO2.out.cap, by omega, (HO2.out.alloc _).rd, OwB.lies HO2.out (Nat.le_refl _) (by simp)⟩, HB2.out.alloc HB2.out.size _⟩
/-- what a round keeps: the iterator's own bytes, and the table -/
def KT (lo hi : Nat) (W W' : World) : Prop := Band lo hi W W' ∧ (Table W → Table W') ∧ W.heap.size ≤ W'.heap.size
theorem KT.trans {lo hi : Nat} {A B C : World} (h : KT lo hi A B) (k : KT lo hi B C) : KT lo hi A C := ⟨bandTrans h.1 k.1, fun t => k.2.1 (h.2.1 t), Nat.le_trans h.2.2 k.2.2⟩
theorem Table.lt {w : World} (h : Table w) : 0 < w.heap.size := World.block_lt_of_cell? _ _ (h 0 (by decide))
theorem KT.put {lo hi : Nat} {w : World} (hw : hi ≤ w.heap.size) (ht : Table w) (W : World) (l : Nat) (o o' : Obj) (hl : w.heap.size ≤ l) (ho : W.heap[l]? = some o) (hc : o.isCells = false) (hk : o.isWalk = false) : KT lo hi W (W.putObj l o') :=
  ⟨band_put hw W l o o' hl ho hc hk, fun t i hi => by
    rw [← t i hi]
    have := Table.lt ht
    exact World.cell?_of_block (World.putObj_heap_other (by show 0 ≠ l; omega)), by simp⟩
theorem bandBelow {lo hi : Nat} {w w' : World} (h : Below w.heap.size w w') (hw : hi ≤ w.heap.size) : Band lo hi w w' := ⟨by have := h.size; omega, fun i a b => h.block i (by omega)⟩
theorem KT.below {lo hi : Nat} {w w' : World} (hb : Below w.heap.size w w') (hw : hi ≤ w.heap.size) : KT lo hi w w' := ⟨bandBelow hb hw, fun t => t.below hb, hb.size⟩
theorem OwB.kept {w w' : World} {base n c : Nat} {A : Option Addr} {ys : List Int} (h : OwB w base A n c ys) {row : Option Nat} (hg : w.grownBy w' row) (hr : ∀ r, row = some r → ∃ o : Obj, w.heap[r]? = some o ∧ o.isCells = false) : OwB w' base A n c ys := by
  refine ⟨h.1.kept hg ?_, h.2⟩
  rcases h.1.2 with ⟨hv, _⟩ | ⟨g, cap, cur, hv, _, hb, _, _, _⟩
  · injection hv with h1 _ _
    subst h1
    exact .inl rfl
  · injection hv with h1 _ _
    subst h1
    refine .inr fun e => ?_
    obtain ⟨o, ho, hc⟩ := hr g e.symm
    rw [hb] at ho
    injection ho with ho
    subst ho
    cases hc
/-- the payload of a round -/
def pay (xs : List Int) (x : It) : List Int := (xs.drop (x.p + 8)).take x.n
/-- what a round is told -/
def V (xs : List Int) (B : Nat) (pre : List It) (x : It) (W : World) : Prop := (pre ++ [x]).map It.key <+: flist xs ∧ OwB W B x.A x.n x.c (pay xs x)
theorem pay_eq {xs : List Int} {p k : Nat} {A : Option Addr} {c : Nat} {h1 h2} (hk : 8 ≤ k) : (xs.take (p + k)).drop (p + 8) = pay xs ⟨p, A, k - 8, c, h1, h2⟩ := by
  unfold pay
  rw [List.drop_take]
  congr 1
  show p + k - (p + 8) = k - 8
  omega
theorem V.own {xs : List Int} {b : Nat} (B : Nat) : OwnFrom b (fun (z : List It × It) W => V xs B z.1 z.2 W) := fun z W W' row h hg hr => ⟨h.1, OwB.kept h.2 hg fun r e => (hr r e).2⟩
set_option maxRecDepth 100000 in
set_option maxHeartbeats 2000000 in
theorem all1_in (n : Nat) (hn : 1 ≤ n) (l Bs lo hi : Nat) (xs : List Int) (J Jx : List It → World → Prop)
    (B : Nat) (hY : ∀ pre x W0 W, J pre W0 → J pre W → B ≤ W0.heap.size → CK W0 W → V xs W0.heap.size pre x W → YieldAt Fence.wide (n - 1) Tryd.prog l (encs x) W fun e W' =>
      (e = .returned (.bool true) ∧ J (pre ++ [x]) W' ∧ KT lo hi W W') ∨ (e = .returned (.bool false) ∧ Jx (pre ++ [x]) W'))
    (W : World) (hBW : B ≤ W.heap.size) (hN : NumsAt lo hi W Bs xs) (hW : hi ≤ W.heap.size) (hT : Table W) (hab : AbidesFrom W.heap.size J) (h0 : J [] W) :
    CallsIn Fence.wide n Tryd.prog 62 #[.func (.yield l) #[] #[], .pointer (some ⟨Bs, 0, none⟩)] W fun e W' => (∃ v, e = .returned v) ∧
      ((∃ ys, ys.map It.key = flist xs ∧ J ys W') ∨ (∃ pre, pre.map It.key <+: flist xs ∧ Jx pre W')) := by
  obtain ⟨A, m, c, hcell0, hc, hm, hR0, hL⟩ : ∃ A n c, W.cell? ⟨Bs, 0, none⟩ = some (.slice A n c) ∧ n ≤ c ∧ n ≤ 140737488355328 ∧ RdB W A n xs ∧ Lies lo hi A n := hN.2.2
  have hBs := hN.1
  have hBs2 := hN.2.1
  have HR := Lib.hid hR0
  have HL := Lib.hid hL
  have hlen := hR0.len
  have HC := Lib.hid hcell0
  have HAB : Hid (∀ s w1 w2, J s w1 → Below w1.heap.size w1 w2 → J s w2) := Lib.hid fun s w1 w2 hj hb => hab s w1 w2 none hj (grown_of_below hb none) (fun r e => by cases e)
  have HT0 := Lib.hid hT
  clear hN hR0 hL hcell0 hab hT
  refine callsIn_of_wp Tryd.func62 rfl trivial ?_ rfl
  simp only [Tryd.ntmps62, List.size_toArray, List.length_cons, List.length_nil, Nat.reduceAdd, Nat.reduceSub, Array.replicate_succ, Array.replicate_zero, List.push_toArray, List.append_toArray, List.nil_append, List.cons_append]
  gi_wp2
  gi_loopw [3] (fun i wr => ∃ (p f : Nat) (pre : List It), p ≤ m ∧ i = .int .i64 p ∧ m - p ≤ f ∧ Aside0 (pre.map It.key ++ fitems f p (xs.drop p) = flist xs) ∧ Aside0 (J pre wr) ∧ Aside0 (KT lo hi W wr)) (fun i _ => m - (intOf i).toNat)
  case atStart => exact ⟨0, xs.length, [], by omega, rfl, by omega, ⟨rfl⟩, ⟨h0⟩, ⟨Band.refl hW, fun t => t, Nat.le_refl _⟩⟩
  case round =>
    obtain ⟨p, f, pre, hp, rfl, hf, HE, HJ, HB⟩ := hrel
    have hcell : wr.cell? ⟨Bs, 0, none⟩ = some (.slice A m c) := bandCell HB.out.1 hBs hBs2 HC.out
    obtain ⟨A2, n2, c2, hcut, hm1, hm2, hm3, hrd⟩ := cutL A m c p hp hc
    have HRr := Lib.hid (RdB.band HR.out HL.out HB.out.1)
    have HTr := Lib.hid (HB.out.2.1 HT0.out)
    have HF := Lib.hid (first_any A2 n2 c2 (xs.drop p) wr (hrd _ _ HRr.out) hm3 HTr.out)
    have hd := firstN_le (xs.drop p)
    have hg := firstN_ge (xs.drop p)
    rw [List.length_drop, hlen] at hd
    have hbw : hi ≤ wr.heap.size := HB.out.1.1
    clear hrd
    by_cases h0 : firstN (xs.drop p) = 0
    · have hE := HE.out
      rw [fitems_end _ _ _ h0, List.append_nil] at hE
      have HE := Lib.hid hE
      rw [h0] at HF
      clear hE h0 hd hg
      gi_wp2_with (refine ⟨trivial, ?_⟩; gi_at_call 63; refine (callsIn_wide.2 HF.out).mono ?_; rintro e w5 ⟨rfl, hb⟩; have HJ5 := Lib.hid (HAB.out _ _ _ HJ.out hb); clear hb)
      refine ⟨trivial, ?_⟩
      gi_wp2
      refine ⟨fun _ h => (by cases h), ?_⟩
      gi_wp2
      refine bodyPost_ret (results_none rfl _ _ _) rfl ?_
      exact ⟨⟨_, rfl⟩, .inl ⟨pre, HE.out, HJ5.out⟩⟩
    · have hg8 := hg h0
      have hN := Lib.hid (fitems_next (f - 1) p (xs.drop p) h0)
      generalize hk : firstN (xs.drop p) = k at HF hd hg8 h0 hN
      clear hg
      obtain ⟨f', rfl⟩ : ∃ f', f = f' + 1 := ⟨f - 1, by omega⟩
      have hE := HE.out
      rw [show f' + 1 - 1 = f' from rfl] at hN
      rw [hN.out, List.drop_drop] at hE
      have HE := Lib.hid hE
      clear hE hk hN
      obtain ⟨A3, n3, c3, hcut3, q1, q2, q3, hrd3⟩ := cutLH A m c (p + 8) (p + k) (by omega) (by omega) hc
      have e8 : ((p + 8 : Nat) : Int) = (p : Int) + 8 := by omega
      have ek : ((p + k : Nat) : Int) = (p : Int) + (k : Int) := by omega
      have hcut3 : ∀ W : World, (Instr.slice 22 (.slice A m c) (some (.int .i64 ((p : Int) + 8))) (some (.int .i64 ((p : Int) + (k : Int)))) none).run Tryd.prog W = .ok (.slice A3 n3 c3) W := fun W => by have := hcut3 W; rw [e8, ek] at this; exact this
      obtain rfl : n3 = k - 8 := by omega
      have hkb : ((k : Int) == 0) = false := beq_eq_false_iff_ne.2 (by omega)
      clear e8 ek
      gi_wp2_with (first | (refine ⟨trivial, ?_⟩; gi_at_call 63; refine (callsIn_wide.2 HF.out).mono ?_; rintro e w5 ⟨rfl, hb⟩; have HJ5 := Lib.hid (HAB.out _ _ _ HJ.out hb); have HB5 := Lib.hid (KT.trans HB.out (KT.below hb hbw)); have hcell5 : w5.cell? ⟨Bs, 0, none⟩ = some (.slice A m c) := bandCell HB5.out.1 hBs hBs2 HC.out; have HR5 := Lib.hid (RdB.band HR.out HL.out HB5.out.1); have hs5 := hb.size; clear hb) | (refine ⟨trivial, ?_⟩; gi_at_call 31; refine (callsIn_wide.2 (clone_any A3 (k - 8) c3 _ w5 (hrd3 _ _ HR5.out) (by omega))).mono ?_; rintro e w6 ⟨A4, n4, c4, rfl, ho, hb⟩; have hn4 : n4 = k - 8 := (by have h1 := ho.len; have h2 := (hrd3 _ _ HR5.out).len; omega); subst hn4; have HJ6 := Lib.hid (HAB.out _ _ _ HJ5.out hb); have HB6 := Lib.hid (KT.trans HB5.out (KT.below hb (by omega))); obtain ⟨fn, tmps, assign, body, hy, hR⟩ := hY pre ⟨p, A4, k - 8, c4, (by omega), (by omega)⟩ w5 w6 HJ5.out HJ6.out (Nat.le_trans hBW HB5.out.2.2) (CK.of_below hb) ⟨⟨_, by rw [← HE.out]; simp [It.key]; rfl⟩, (by have h3 := ho; rw [pay_eq (by omega)] at h3; exact h3)⟩; dsimp only [encs] at hy; clear ho hb))
      refine hR.mono ?_
      rintro e W3 (⟨rfl, hJ3, hk3⟩ | ⟨rfl, hJx3⟩)
      · have HJ3 := Lib.hid hJ3
        have HB3 := Aside0.mk (KT.trans HB6.out hk3)
        clear hJ3 hk3
        gi_wp2
        go_roundw
        case rel => exact ⟨p + k, f', pre ++ [⟨p, A4, k - 8, c4, (by omega), (by omega)⟩], by omega, by go_num, by omega, ⟨by rw [← HE.out]; simp [It.key]⟩, ⟨HJ3.out⟩, HB3⟩
        case measure => simp [intOf]; omega
      · gi_wp2
        refine bodyPost_ret (results_none rfl _ _ _) rfl ?_
        exact ⟨⟨_, rfl⟩, .inr ⟨_, ⟨_, by rw [← HE.out]; simp [It.key]; rfl⟩, hJx3⟩⟩
theorem all_v (n : Nat) (hn : 1 ≤ n) (Bs lo hi : Nat) (xs : List Int) (w : World) (hn₀ : hi ≤ w.heap.size) (hN : NumsAt lo hi w Bs xs) (hT : Table w) :
    SeqV Fence.wide n Tryd.prog 62 #[.pointer (some ⟨Bs, 0, none⟩)] encs (KT lo hi) (V xs) (fun ys => ys.map It.key = flist xs) (fun pre => pre.map It.key <+: flist xs) w := fun l J Jx W hW hJ _ hY h0 =>
  all1_in n hn l Bs lo hi xs J Jx _ hY W (Nat.le_refl _) (hN.band (bandBelow hW hn₀)) (Nat.le_trans hn₀ hW.size) (hT.below hW) hJ h0
theorem all_stops (n : Nat) (hn : 1 ≤ n) (Bs lo hi : Nat) (xs : List Int) (w : World) (hn₀ : hi ≤ w.heap.size) (hN : NumsAt lo hi w Bs xs) (hT : Table w) :
    SeqStopsK Fence.wide n Tryd.prog 62 #[.pointer (some ⟨Bs, 0, none⟩)] encs (KT lo hi) (fun ys => ys.map It.key = flist xs) (fun pre => pre.map It.key <+: flist xs) (flist xs).length w :=
  (all_v n hn Bs lo hi xs w hn₀ hN hT).stops fun B pre x W hv => by
    have h1 := hv.1.length_le
    simp at h1
    omega
end Go.Proofs.YtfinaikgikifcaaDoor.frameit
/- What frame.End computes. -/
namespace Go.Proofs.YtfinaikgikifcaaDoor.frameit
open Go.RowKit Go.Shelf Go.Proofs.YtfinaikgikifcaaDoorW.PrintWords Go.Proofs.YtfinaikgikifcaaDoor.base Go.Proofs.YtfinaikgikifcaaDoor.mem Go.Proofs.YtfinaikgikifcaaDoor.crcp Go.Proofs.YtfinaikgikifcaaDoor.crcw Go.Proofs.YtfinaikgikifcaaDoor.samew Go.Proofs.YtfinaikgikifcaaDoor.keep Go.Proofs.YtfinaikgikifcaaDoor.framep Go.Proofs.YtfinaikgikifcaaDoor.framew
attribute [local go_sem] Oper.semAt_some

def endL (L : List (Nat × Nat)) : Nat := match L.getLast? with | none => 0 | some x => x.1 + 8 + x.2
def endOf (pre : List It) : Nat := endL (pre.map It.key)
theorem endOf_snoc (pre : List It) (x : It) : endOf (pre ++ [x]) = x.p + 8 + x.n := by simp [endOf, endL, It.key]
theorem KT.set {lo hi p : Nat} {W : World} (hw : hi ≤ W.heap.size) (hp : p < lo) (hg : p ≠ 0) (v : Value) : KT lo hi W (W.setCell ⟨p, 0, none⟩ v) :=
  ⟨(Band.refl hw).set (.inl hp) _ _, fun t i hi => by
    rw [World.cell?_setCell_other _ _ _ _ (by intro e; injection e with e; exact hg e)]
    exact t i hi, by simp [World.setCell]⟩
theorem keepsFrom_set {B : Nat} {W : World} (p : Addr) (v : Value) : KeepsFrom B W (W.setCell p v) := (KeepsOthers.setCell W p v).from B
set_option maxHeartbeats 2000000 in
set_option maxRecDepth 100000 in
theorem end_any (A : Option Addr) (n c : Nat) (xs : List Int) (w : World) (hr : RdB w A n xs) (hn : n ≤ 140737488355328) (ht : Table w) :
    Calls Tryd.prog 49 #[.slice A n c] w fun e w' => e = .returned (.int .i64 (endL (flist xs) : Nat)) ∧ Below w.heap.size w w' := by
  have HR := Lib.hid hr
  have HT := Lib.hid ht
  have hg := Table.lt ht
  have B1 := Lib.hid (below_alloc (Below.refl w.heap.size w) (.cells #[.int .i64 0] 3))
  have hs1 := B1.out.size
  have hz1 : (w.alloc (.cells #[.int .i64 0] 3)).heap.size = w.heap.size + 1 := by simp
  have p0 : (w.alloc (.cells #[.int .i64 0] 3)).cell? ⟨w.heap.size, 0, none⟩ = some (.int .i64 0) := by simp
  have r0 : (w.alloc (.cells #[.int .i64 0] 3)).frozen? ⟨w.heap.size, 0, none⟩ = false := by simp
  clear hr ht
  refine (callsIn_wide (n := 6)).1 ?_
  refine callsIn_of_wp_marks Tryd.func49 rfl trivial ?_ rfl
  simp only [Tryd.ntmps49, List.size_toArray, List.length_cons, List.length_nil, Nat.reduceAdd, Nat.reduceSub, Array.replicate_succ, Array.replicate_zero, List.push_toArray, List.append_toArray, List.nil_append, List.cons_append]
  refine wpIn_wide.2 ?_
  go_wp2_with fail
  refine (frames_any _ _ _ xs _ (HR.out.below B1.out) hn).mono ?_
  rintro e w2 ⟨Bs, rfl, hN, hb⟩
  have p2 := pw_cell_below hb p0
  have r2 : w2.frozen? ⟨w.heap.size, 0, none⟩ = false := (hb.frozen (p := ⟨w.heap.size, 0, none⟩) (by rw [hz1]; show w.heap.size < _; omega)).trans r0
  have B2 := Lib.hid (B1.out.trans (hb.mono hs1))
  have hs2 : w.heap.size + 1 ≤ w2.heap.size := by rw [← hz1]; exact hb.size
  rw [hz1] at hN
  have HNN := all_stops (6 - 1) (by decide) Bs _ _ xs w2 (Nat.le_refl _) hN (HT.out.below B2.out)
  have HT2 := Lib.hid (HT.out.below B2.out)
  clear hb hN p0 r0 hz1 hs1
  go_wp2
  refine (wpIn_wide (n := 6)).1 ?_
  refine' wpIn_rangeFunc_ownG rfl (by decide) (gf := 62) (lb := #[.pointer (some ⟨Bs, 0, none⟩)]) rfl trivial (enters_of Tryd.func62 (by kernel_rfl) rfl) HNN (fun h k => KT.trans h k) (KT.put (Nat.le_refl _) HT2.out) (Below.refl _ _) (fun _ => rfl)
    (fun pre W => ((W.cell? ⟨w.heap.size, 0, none⟩ = some (.int .i64 (endOf pre : Nat)) ∧ W.frozen? ⟨w.heap.size, 0, none⟩ = false) ∧ w2.heap.size ≤ W.heap.size) ∧ Below w.heap.size w W)
    (fun _ _ _ => False)
    (OwnFrom.and (Own.from (fun s A B row hs hg hr => ⟨⟨cell_kept hs.1.1 hg hr, (frozen_kept hs.1.1 hg hr).trans hs.1.2⟩, Nat.le_trans hs.2 hg.size⟩) _) (ownFrom_below (Nat.le_refl _) (by omega)))
    (fun _ _ _ _ _ hs _ _ => hs)
    ⟨⟨⟨p2, r2⟩, Nat.le_refl _⟩, B2.out⟩ _ ?assign ?body ?done ?stop
  case assign =>
    intro l x W K hK
    gi_wp2
    exact hK
  case body =>
    rintro l pre ⟨p, A5, n5, c5, hp, hn5⟩ W ⟨⟨⟨hc, hf⟩, hsz⟩, hB⟩ hlt
    have HE : Hid (∀ t : Int, t = (p : Int) + 8 + n5 → KeepsFrom w2.heap.size W (W.setCell ⟨w.heap.size, 0, none⟩ (.int .i64 t)) ∧ KT (w.heap.size + 1) w2.heap.size W (W.setCell ⟨w.heap.size, 0, none⟩ (.int .i64 t)) ∧ (((W.setCell ⟨w.heap.size, 0, none⟩ (.int .i64 t)).cell? ⟨w.heap.size, 0, none⟩ = some (.int .i64 (endOf (pre ++ [⟨p, A5, n5, c5, hp, hn5⟩]) : Nat)) ∧ (W.setCell ⟨w.heap.size, 0, none⟩ (.int .i64 t)).frozen? ⟨w.heap.size, 0, none⟩ = false) ∧ w2.heap.size ≤ (W.setCell ⟨w.heap.size, 0, none⟩ (.int .i64 t)).heap.size) ∧ Below w.heap.size w (W.setCell ⟨w.heap.size, 0, none⟩ (.int .i64 t))) := Lib.hid (by
      rintro t rfl
      refine ⟨keepsFrom_set _ _, KT.set hsz (by omega) (by omega) _, ⟨⟨?_, by rw [World.frozen?_setCell]; exact hf⟩, by simpa [World.setCell] using hsz⟩, hB.setCell (p := ⟨w.heap.size, 0, none⟩) (Nat.le_refl _) _⟩
      rw [endOf_snoc, World.cell?_setCell_same' _ _ _ (by rw [hc]; rfl)]
      simp)
    gi_wp2
    exact HE.out _ (by omega)
  case done =>
    rintro D ys W hD hS ⟨⟨⟨hc, hf⟩, hsz⟩, hB⟩ hK
    have HS : Hid (endOf ys = endL (flist xs)) := Lib.hid (by unfold endOf; rw [hS])
    go_wp2
    refine ⟨by simp, .inl ⟨_, _, rfl, run_takeDeferred hK, ?_⟩⟩
    exact ⟨_, results_tmp rfl _ _ _, by rw [← HS.out]; rfl, hB.trans (belowK_b (w := w) (Nat.le_refl _) W D _ _ (by omega) hK rfl rfl)⟩
  case stop =>
    rintro D c pre W _ _ h _
    exact h.elim
end Go.Proofs.YtfinaikgikifcaaDoor.frameit
/- What frame.Encode and the reference's Encode compute. -/
namespace Go.Proofs.YtfinaikgikifcaaDoor.framem
open Go.RowKit Go.Proofs.YtfinaikgikifcaaDoorW.PrintWords Go.Proofs.YtfinaikgikifcaaDoor.base Go.Proofs.YtfinaikgikifcaaDoor.mem Go.Proofs.YtfinaikgikifcaaDoor.crcp Go.Proofs.YtfinaikgikifcaaDoor.crcw Go.Proofs.YtfinaikgikifcaaDoor.samew Go.Proofs.YtfinaikgikifcaaDoor.framep Go.Proofs.YtfinaikgikifcaaDoor.framew Go.Proofs.YtfinaikgikifcaaDoor.frameit

/-- a payload's frame -/
def fenc (xs : List Int) : List Int := le4 xs.length ++ le4 (parts 0 [le4 xs.length, xs]) ++ xs
theorem parts2 (a b : List Int) : parts 0 [a, b] = add 0 (a ++ b) := add_append 0 a b
theorem U32_len {n : Nat} (h : n ≤ 1048576) : U32 (n : Int) := ⟨by omega, by omega⟩
set_option maxHeartbeats 1000000 in
theorem four_any (w0 : World) (base : Nat) (A : Option Addr) (n c : Nat) (xs : List Int) (S : Int) (w : World) (ho : OwB w base A n c xs) (hbs : base ≤ w.heap.size) (hB : Below base w0 w) (hU : U32 S) (hl : n + 4 ≤ 140737488355328) :
    Calls Tryd.prog 53 #[.slice A n c, .int .u32 S] w fun e w' => ∃ A1 n1 c1, e = .returned (.slice A1 n1 c1) ∧ OwB w' base A1 n1 c1 (xs ++ le4 S) ∧ Below base w0 w' := by
  have HO := Lib.hid ho
  have HB := Lib.hid hB
  have hU0 := hU.1
  have hU1 := hU.2
  have HBy := Lib.hid (By_le4 hU)
  clear ho hB hU
  go_enter Tryd.func53, Tryd.ntmps53
  go_wp2_with (first | (at_builtin; refine app (w0 := w0) (base := base) rfl (.tmp 5) (.tmp 17) rfl rfl rfl (HO.out.alloc _) (litB w (0, 0) (le4 S) (Nat.le_of_ble_eq_true rfl) HBy.out) (HB.out.alloc hbs _) ?s5 ?l5 ?_; (case s5 => simp; omega); (case l5 => omega); intro A5 n5 c5 w5 ho hb; have HO5 := Lib.hid ho; have B5 := Lib.hid hb; clear ho hb))
  go_ret
  exact ⟨A5, n5, c5, rfl, HO5.out, B5.out⟩
set_option maxHeartbeats 1000000 in
theorem reffour_any (S : Int) (w : World) (hU : U32 S) :
    Calls Tryd.prog 57 #[.int .u32 S] w fun e w' => ∃ A1 c1, e = .returned (.slice A1 4 c1) ∧ 4 ≤ c1 ∧ RdB w' A1 4 (le4 S) ∧ Below w.heap.size w w' := by
  have hU0 := hU.1
  have hU1 := hU.2
  have HBy := Lib.hid (By_le4 hU)
  have HL := Lib.hid (litB w (0, 0) (le4 S) (Nat.le_of_ble_eq_true rfl) HBy.out)
  have B1 := Lib.hid (below_alloc (Below.refl w.heap.size w) (.cells (nums .u8 (le4 S)).toArray 5 (0, 0)))
  clear hU
  go_enter Tryd.func57, Tryd.ntmps57
  go_wp2
  go_ret
  exact ⟨_, _, rfl, Nat.le_refl _, HL.out, B1.out⟩
def RetE (w : World) (v : Bool) (E : List Int) (e : Ending) (w' : World) : Prop := ∃ A n c, e = .returned (.tuple #[.slice A n c, .int .i64 (if v then 0 else 3)]) ∧ OwB w' w.heap.size A n c (if v then E else []) ∧ Below w.heap.size w w'
set_option maxHeartbeats 1000000 in
theorem encode_any (A : Option Addr) (n c : Nat) (xs : List Int) (w : World) (hr : RdB w A n xs) (hc : n ≤ c) (ht : Table w) :
    Calls Tryd.prog 37 #[.slice A n c] w (RetE w (decide (n ≤ 1048576)) (fenc xs)) := by
  have HR := Lib.hid hr
  have HT := Lib.hid ht
  have hlen := hr.len
  have hmax := hr.max
  clear hr ht
  by_cases hb : n ≤ 1048576
  · have hd : decide (n ≤ 1048576) = true := decide_eq_true hb
    rw [hd]
    have hU := U32_len hb
    have HF : Hid (fenc xs = le4 n ++ le4 (parts 0 [le4 n, xs]) ++ xs) := Lib.hid (by unfold fenc; rw [hlen])
    have HP := Lib.hid (U32_parts 0 ⟨by decide, by decide⟩ [le4 n, xs])
    have H4 := Lib.hid (four_any w w.heap.size none 0 0 [] n w (OwB.nil _ _) (Nat.le_refl _) (Below.refl _ _) hU (by omega))
    clear hU hd hlen
    go_enter Tryd.func37, Tryd.ntmps37
    go_wp2_with fail
    refine H4.out.mono ?_
    rintro e w2 ⟨A2, n2, c2, rfl, ho, hbb⟩
    rw [List.nil_append] at ho
    obtain rfl : n2 = 4 := ho.len.symm
    have HO2 := Lib.hid ho
    have HB2 := Lib.hid hbb
    have hs2 := hbb.size
    clear ho hbb
    have RR := Lib.hid (rows2 HO2.out.rd HO2.out.cap (HR.out.below HB2.out) hc 22)
    have HO3 := Lib.hid (HO2.out.alloc (.cells #[.slice A2 4 c2, .slice A n c] 22))
    have HB3 := Lib.hid (HB2.out.alloc hs2 (.cells #[.slice A2 4 c2, .slice A n c] 22))
    have HT3 := Lib.hid (HT.out.below HB3.out)
    have hs3 := HB3.out.size
    have HPC := Lib.hid (parts_any _ _ 2 _ _ RR.out HT3.out)
    generalize parts 0 [le4 n, xs] = S at HF HP HPC
    have HRR := Lib.hid (fun W (h : Below w.heap.size w W) => HR.out.below h)
    go_wp2_with (first | (go_at_call 54; refine HPC.out.mono ?_; rintro e w5 ⟨rfl, rfl⟩) | (go_at_call 53; refine (four_any w w.heap.size _ _ _ (le4 n) _ _ HO3.out hs3 HB3.out HP.out (by omega)).mono ?_; rintro e w6 ⟨A6, n6, c6, rfl, ho, hbb⟩; have hl6 : 8 = n6 := ho.len; subst hl6; have HO6 := Lib.hid ho; have HB6 := Lib.hid hbb; have hs6 := hbb.size; clear ho hbb) | (at_builtin; refine app (w0 := w) (base := w.heap.size) rfl (.tmp 18) (.tmp 19) rfl rfl rfl (HO6.out) (HRR.out _ HB6.out) (HB6.out) ?s7 ?l7 ?_; (case s7 => exact hs6); (case l7 => omega); intro A7 n7 c7 w7 ho hb; have HO7 := Lib.hid ho; have B7 := Lib.hid hb; clear ho hb))
    refine bodyPost_ret (results_tmp2 rfl _ _ _) rfl ?_
    exact ⟨A7, n7, c7, rfl, by rw [if_pos rfl, HF.out]; exact HO7.out, B7.out⟩
  · have hd : decide (n ≤ 1048576) = false := decide_eq_false hb
    rw [hd]
    go_enter Tryd.func37, Tryd.ntmps37
    go_wp2
    refine bodyPost_ret (results_tmp2 rfl _ _ _) rfl ?_
    exact ⟨none, 0, 0, rfl, OwB.nil _ _, Below.refl _ _⟩
set_option maxHeartbeats 1000000 in
theorem refencode_any (A : Option Addr) (n c : Nat) (xs : List Int) (w : World) (hr : RdB w A n xs) (hc : n ≤ c) :
    Calls Tryd.prog 40 #[.slice A n c] w (RetE w (decide (n ≤ 1048576)) (fenc xs)) := by
  have HR := Lib.hid hr
  have hlen := hr.len
  have hmax := hr.max
  clear hr
  by_cases hb : n ≤ 1048576
  · have hd : decide (n ≤ 1048576) = true := decide_eq_true hb
    rw [hd]
    have hU := U32_len hb
    have HF : Hid (fenc xs = ([] ++ le4 n) ++ le4 (add 0 (([] ++ le4 n) ++ xs)) ++ xs) := Lib.hid (by rw [List.nil_append, ← parts2]; unfold fenc; rw [hlen])
    have HP := Lib.hid (U32_add 0 (([] ++ le4 n) ++ xs))
    have HRR := Lib.hid (fun W (h : Below w.heap.size w W) => HR.out.below h)
    have H4 := Lib.hid (reffour_any n w hU)
    clear hU hd hlen
    go_enter Tryd.func40, Tryd.ntmps40
    go_wp2_with fail
    refine H4.out.mono ?_
    rintro e w2 ⟨A2, c2, rfl, h4c, hr2, hb2⟩
    have HR2 := Lib.hid hr2
    have HB2 := Lib.hid hb2
    have hs2 := hb2.size
    clear hr2 hb2
    have HBX := Lib.hid (Below.refl w2.heap.size w2)
    have HRX := Lib.hid (fun W (h : Below w2.heap.size w2 W) => HRR.out _ (HB2.out.trans (h.mono hs2)))
    go_wp2_with (first | (at_builtin; refine app (w0 := w2) (base := w2.heap.size) rfl (.tmp 13) (.tmp 14) rfl rfl rfl (OwB.lit0 _ _ (Nat.le_refl _)) (HR2.out.below (below_alloc (Below.refl _ _) _)) (HBX.out.alloc (Nat.le_refl _) _) ?s5 ?l5 ?_; (case s5 => simp); (case l5 => omega); intro A5 n5 c5 w5 ho hb; have HO5 := Lib.hid ho; have B5 := Lib.hid hb; have hl5 : 4 = n5 := ho.len; subst hl5; have hs5 := hb.size; clear ho hb) | (at_builtin; refine app (w0 := w2) (base := w2.heap.size) rfl (.tmp 15) (.tmp 16) rfl rfl rfl (HO5.out) (HRX.out _ B5.out) (B5.out) ?s6 ?l6 ?_; (case s6 => exact hs5); (case l6 => omega); intro A6 n6 c6 w6 ho hb; have HO6 := Lib.hid ho; have B6 := Lib.hid hb; have hs6 := hb.size; clear ho hb) | (go_at_call 58; refine (refsum_any _ _ _ _ _ HO6.out.rd).mono ?_; rintro e w7 ⟨rfl, rfl⟩; rw [add_ref]; generalize add 0 (([] ++ le4 n) ++ xs) = S at HF HP ⊢) | (go_at_call 57; refine (reffour_any S _ HP.out).mono ?_; rintro e w8 ⟨A8, c8, rfl, h4c8, hr8, hb8⟩; have HR8 := Lib.hid hr8; have BX8 := Lib.hid (B6.out.trans (hb8.mono hs6)); have HR28 := Lib.hid (HR2.out.below BX8.out); have B8 := Lib.hid (HB2.out.trans (BX8.out.mono hs2)); have hs8 := B8.out.size; have HBY := Lib.hid (Below.refl w8.heap.size w8); clear hr8 hb8) | (at_builtin; refine app (w0 := w8) (base := w8.heap.size) rfl (.tmp 20) (.tmp 21) rfl rfl rfl (OwB.lit0 _ _ (Nat.le_refl _)) (HR28.out.below (below_alloc (Below.refl _ _) _)) (HBY.out.alloc (Nat.le_refl _) _) ?sa ?la ?_; (case sa => simp); (case la => omega); intro Aa na ca wa ho hb; have HOa := Lib.hid ho; have Ba := Lib.hid hb; have hla : 4 = na := ho.len; subst hla; have hsa := hb.size; clear ho hb) | (at_builtin; refine app (w0 := w8) (base := w8.heap.size) rfl (.tmp 22) (.tmp 23) rfl rfl rfl (HOa.out) (HR8.out.below Ba.out) (Ba.out) ?sb ?lb ?_; (case sb => exact hsa); (case lb => omega); intro Ab nb cb wb ho hb; have HOb := Lib.hid ho; have Bb := Lib.hid hb; have hlb : 8 = nb := ho.len; subst hlb; have hsb := hb.size; clear ho hb) | (at_builtin; refine app (w0 := w8) (base := w8.heap.size) rfl (.tmp 24) (.tmp 25) rfl rfl rfl (HOb.out) (HRR.out _ (B8.out.trans (Bb.out.mono hs8))) (Bb.out) ?sc ?lc ?_; (case sc => exact hsb); (case lc => omega); intro Ac nc cc wc ho hb; have HOc := Lib.hid ho; have Bc := Lib.hid hb; clear ho hb))
    refine bodyPost_ret (results_tmp2 rfl _ _ _) rfl ?_
    exact ⟨Ac, nc, cc, rfl, by rw [if_pos rfl, HF.out]; exact HOc.out.less hs8, B8.out.trans (Bc.out.mono hs8)⟩
  · have hd : decide (n ≤ 1048576) = false := decide_eq_false hb
    rw [hd]
    go_enter Tryd.func40, Tryd.ntmps40
    go_wp2
    refine bodyPost_ret (results_tmp2 rfl _ _ _) rfl ?_
    exact ⟨none, 0, 0, rfl, OwB.nil _ _, Below.refl _ _⟩
end Go.Proofs.YtfinaikgikifcaaDoor.framem
/- Frames of payloads: plain. -/
namespace Go.Proofs.YtfinaikgikifcaaDoor.framel
open Go.RowKit Go.Proofs.YtfinaikgikifcaaDoorW.PrintWords Go.Proofs.YtfinaikgikifcaaDoor.base Go.Proofs.YtfinaikgikifcaaDoor.mem Go.Proofs.YtfinaikgikifcaaDoor.crcp Go.Proofs.YtfinaikgikifcaaDoor.crcw Go.Proofs.YtfinaikgikifcaaDoor.samew Go.Proofs.YtfinaikgikifcaaDoor.framep Go.Proofs.YtfinaikgikifcaaDoor.framew Go.Proofs.YtfinaikgikifcaaDoor.frameit Go.Proofs.YtfinaikgikifcaaDoor.framem

theorem le4_len (S : Int) : (le4 S).length = 4 := rfl
theorem fenc_len (xs : List Int) : (fenc xs).length = 8 + xs.length := by simp [fenc, le4_len]; omega
theorem By_fenc {xs : List Int} (hx : By xs) (h : xs.length ≤ 1048576) : By (fenc xs) := (((By_le4 (U32_len h)).append (By_le4 (U32_parts 0 ⟨by decide, by decide⟩ _))).append hx)
theorem firstN_fenc (xs more : List Int) (h : xs.length ≤ 1048576) : firstN (fenc xs ++ more) = 8 + xs.length := by
  have e1 : w4 (fenc xs ++ more) = xs.length := by
    unfold fenc
    rw [List.append_assoc, List.append_assoc]
    exact w4_le4 (U32_len h) _
  have e2 : (fenc xs ++ more).take 4 = le4 xs.length := rfl
  have e3 : (fenc xs ++ more).drop 8 = xs ++ more := rfl
  have e4 : (fenc xs ++ more).drop 4 = le4 (parts 0 [le4 xs.length, xs]) ++ (xs ++ more) := rfl
  unfold firstN
  rw [e1, e2, e3, e4, w4_le4 (U32_parts 0 ⟨by decide, by decide⟩ _), Int.toNat_natCast, List.take_left, List.length_append, fenc_len, if_neg (by omega), if_neg]
  intro hh
  rcases hh with hh | hh | hh
  · omega
  · omega
  · exact hh rfl
theorem fitems_fenc (f p : Nat) (xs more : List Int) (h : xs.length ≤ 1048576) : fitems (f + 1) p (fenc xs ++ more) = (p, xs.length) :: fitems f (p + (8 + xs.length)) more := by
  have e := firstN_fenc xs more h
  rw [fitems_next _ _ _ (by omega), e, show 8 + xs.length - 8 = xs.length from by omega, List.drop_left' (fenc_len xs)]
theorem firstN_nil : firstN [] = 0 := rfl
theorem flist_one (xs : List Int) (h : xs.length ≤ 1048576) : flist (fenc xs) = [(0, xs.length)] := by
  unfold flist
  rw [fenc_len, show 8 + xs.length = (7 + xs.length) + 1 from by omega]
  have := fitems_fenc (7 + xs.length) 0 xs [] h
  rw [List.append_nil] at this
  rw [this, fitems_end _ _ _ firstN_nil]
end Go.Proofs.YtfinaikgikifcaaDoor.framel
