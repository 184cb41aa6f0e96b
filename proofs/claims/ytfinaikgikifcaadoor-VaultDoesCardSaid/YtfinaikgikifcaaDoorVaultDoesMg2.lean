/- What a disk's numbers stay within: plain Lean; and what is proved besides: see the words ahead of each part. -/
import Derived.Laws.BitsLemmas
import Derived.Lib.EndianBits
import Derived.Deep.RegionHeld3
import Derived.Test.YtfinaikgikifcaaDoorWWords
import Derived.RangeFuncNested
import Derived.RangeFuncBound
import Derived.RangeFuncCalls
import Derived.RangeFuncLeaves
import Derived.Shelf.Abstract
import Derived.Shelf.RegionOpen
import Derived.WalkKit
import Derived.OwnWalkIn
import Derived.TacticsInMore
import Derived.LoopNIn
import Derived.LoopIn
import Derived.RangeFuncBox
import Derived.StillTailTactics
import Derived.Laws.OwnMore
import Derived.Test.YtfinaikgikifcaaDoorVaultDoesMg1
set_option linter.unusedVariables false
set_option linter.unusedSimpArgs false
/- What a disk's numbers stay within: plain Lean. -/
namespace Go.Proofs.YtfinaikgikifcaaDoor.diskw
open Go.RowKit Go.Proofs.YtfinaikgikifcaaDoorW.PrintWords Go.Proofs.YtfinaikgikifcaaDoor.base Go.Proofs.YtfinaikgikifcaaDoor.mem Go.Proofs.YtfinaikgikifcaaDoor.diskp Go.Proofs.YtfinaikgikifcaaDoor.diskr

def tot (b : Nat → List Int) (f : Nat) : Nat := (b (2 * f)).length + (b (2 * f + 1)).length
/-- bounds of a disk -/
structure Ok (d : D) (S N : Nat) : Prop where
  s : tot d.b 0 ≤ S ∧ tot d.b 1 ≤ S
  n : 0 ≤ d.n ∧ d.n ≤ N
  a : 0 ≤ d.a ∧ d.a ≤ 9223372036854775807
  k : -9223372036854775808 ≤ d.k ∧ d.k ≤ 9223372036854775807
section
variable {d : D} {S N : Nat}
theorem Ok.len (h : Ok d S N) (i : Nat) (hi : i < 4) : (d.b i).length ≤ S := by
  obtain ⟨h0, h1⟩ := h.s
  unfold tot at h0 h1
  match i, hi with
  | 0, _ => simp at h0; omega
  | 1, _ => simp at h0; omega
  | 2, _ => simp at h1; omega
  | 3, _ => simp at h1; omega
theorem Ok.fit (h : Ok d S N) (hS : S ≤ 70368744177664) (hN : N ≤ 4611686018427387904) : Fit d :=
  ⟨fun i hi => Nat.le_trans (h.len i hi) hS, ⟨h.n.1, by have := h.n.2; omega⟩, h.a, h.k⟩
theorem tot_off0 (k : Int) (b : Nat → List Int) : tot (offF k b 0) 0 ≤ tot b 0 ∧ tot (offF k b 0) 1 = tot b 1 := by
  unfold tot offF upd
  simp only [Nat.mul_zero, Nat.zero_add, Nat.mul_one, List.length_take]
  simp
  omega
theorem tot_off1 (k : Int) (b : Nat → List Int) : tot (offF k b 1) 1 ≤ tot b 1 ∧ tot (offF k b 1) 0 = tot b 0 := by
  unfold tot offF upd
  simp only [Nat.mul_zero, Nat.zero_add, Nat.mul_one, List.length_take]
  simp
  omega
theorem Ok.off (h : Ok d S N) (k : Int) : Ok (offD d k) S N := by
  unfold offD
  split
  · exact h
  · have h0 := tot_off0 k d.b
    have h1 := tot_off1 k (offF k d.b 0)
    refine ⟨⟨?_, ?_⟩, h.n, ⟨by show (0 : Int) ≤ 0; omega, by show (0 : Int) ≤ _; omega⟩, h.k⟩
    · show tot (offF k (offF k d.b 0) 1) 0 ≤ S
      have := h.s.1
      omega
    · show tot (offF k (offF k d.b 0) 1) 1 ≤ S
      have := h.s.2
      omega
theorem Ok.raw (h : Ok d S N) : Ok (rawD d).1 S (N + 1) := by
  have hn := h.n
  have ha := h.a
  unfold rawD
  split
  · exact ⟨h.s, ⟨by show 0 ≤ d.n + 1; omega, by show d.n + 1 ≤ _; omega⟩, h.a, h.k⟩
  · rename_i h0
    exact ⟨h.s, ⟨by show 0 ≤ d.n + 1; omega, by show d.n + 1 ≤ _; omega⟩, ⟨by show 0 ≤ d.a - 1; omega, by show d.a - 1 ≤ _; omega⟩, h.k⟩
theorem Ok.gone (h : Ok d S N) : Ok (diskp.gone d) S (N + 1) := by
  unfold diskp.gone
  split
  · exact h.raw.off _
  · exact h.raw
theorem Ok.more (h : Ok d S N) {S' N' : Nat} (hs : S ≤ S') (hn : N ≤ N') : Ok d S' N' := ⟨⟨Nat.le_trans h.s.1 hs, Nat.le_trans h.s.2 hs⟩, ⟨h.n.1, by have := h.n.2; omega⟩, h.a, h.k⟩
theorem Ok.app (h : Ok d S N) (f : Int) (ys : List Int) : Ok (appR d f ys).1 (S + ys.length) (N + 1) := by
  unfold appR
  split
  · exact h.more (by omega) (by omega)
  · rename_i h0
    obtain ⟨i, rfl, hi, _⟩ := rdy_ok (d := d) (f := f) (by simpa using h0)
    have e : (i : Int).toNat = i := by omega
    show Ok (appD d (i : Int).toNat ys) _ _
    rw [e]
    unfold appD
    refine Ok.gone ⟨?_, h.n, h.a, h.k⟩
    obtain ⟨t0, t1⟩ := h.s
    unfold tot at t0 t1 ⊢
    simp only [putB, upd]
    clear e
    rcases (show i = 0 ∨ i = 1 by omega) with rfl | rfl <;> simp at t0 t1 ⊢ <;> omega
theorem Ok.sync (h : Ok d S N) (f : Int) : Ok (syncR d f).1 S (N + 1) := by
  unfold syncR
  split
  · exact h.more (Nat.le_refl _) (by omega)
  · rename_i h0
    obtain ⟨i, rfl, hi, _⟩ := rdy_ok (d := d) (f := f) (by simpa using h0)
    have e : (i : Int).toNat = i := by omega
    show Ok (syncD d (i : Int).toNat) _ _
    rw [e]
    unfold syncD
    split
    · exact h.gone
    · have hg := h.gone
      generalize diskp.gone d = d' at hg
      refine ⟨?_, hg.n, hg.a, hg.k⟩
      obtain ⟨t0, t1⟩ := hg.s
      unfold tot at t0 t1 ⊢
      simp only [syncB, putB, upd]
      clear e
      rcases (show i = 0 ∨ i = 1 by omega) with rfl | rfl <;> simp at t0 t1 ⊢ <;> omega
theorem Ok.cut (h : Ok d S N) (f n : Int) : Ok (cutR d f n).1 S (N + 1) := by
  unfold cutR
  split
  · exact h.more (Nat.le_refl _) (by omega)
  · split
    · exact h.more (Nat.le_refl _) (by omega)
    · split
      · exact h.more (Nat.le_refl _) (by omega)
      · rename_i h0
        obtain ⟨i, rfl, hi, _⟩ := rdy_ok (d := d) (f := f) (by simpa using h0)
        have e : (i : Int).toNat = i := by omega
        show Ok (cutD d (i : Int).toNat n.toNat) _ _
        rw [e]
        unfold cutD
        split
        · exact h.gone
        · have hg := h.gone
          generalize diskp.gone d = d' at hg
          refine ⟨?_, hg.n, hg.a, hg.k⟩
          obtain ⟨t0, t1⟩ := hg.s
          unfold tot at t0 t1 ⊢
          simp only [cutB, putB, upd]
          clear e
          rcases (show i = 0 ∨ i = 1 by omega) with rfl | rfl <;> simp at t0 t1 ⊢ <;> omega
theorem Ok.arm (h : Ok d S N) {n k : Int} (hn : n ≤ 9223372036854775807) (hk : -9223372036854775808 ≤ k ∧ k ≤ 9223372036854775807) : Ok (armD d n k) S N := ⟨h.s, h.n, ⟨by show 0 ≤ max n 0; omega, by show max n 0 ≤ _; omega⟩, hk⟩
theorem Ok.on (h : Ok d S N) : Ok (onD d) S N := ⟨h.s, h.n, h.a, h.k⟩
theorem Ok.load (a b : List Int) : Ok (diskp.load a b) (a.length + b.length) 0 := by
  refine ⟨?_, ⟨by show (0 : Int) ≤ 0; omega, by show (0 : Int) ≤ 0; omega⟩, ⟨by show (0 : Int) ≤ 0; omega, by show (0 : Int) ≤ _; omega⟩, ⟨by show _ ≤ (0 : Int); omega, by show (0 : Int) ≤ _; omega⟩⟩
  unfold tot diskp.load
  simp
/-- what a call of a script does -/
def doR (d : D) (kd f n k : Int) (ys : List Int) : D × List Int × Int :=
  if kd = 0 then ((appR d f ys).1, [], (appR d f ys).2) else if kd = 1 then ((syncR d f).1, [], (syncR d f).2) else if kd = 2 then ((cutR d f n).1, [], (cutR d f n).2)
  else if kd = 3 then (armD d n k, [], 0) else if kd = 4 then (offD d k, [], 0) else if kd = 5 then (onD d, [], 0) else if kd = 6 then (d, (readR d f).1, (readR d f).2) else (d, [], 0)
theorem Ok.do_ (h : Ok d S N) (kd f : Int) {n k : Int} (ys : List Int) (hn : n ≤ 9223372036854775807) (hk : -9223372036854775808 ≤ k ∧ k ≤ 9223372036854775807) : Ok (doR d kd f n k ys).1 (S + ys.length) (N + 1) := by
  unfold doR
  split
  · exact h.app f ys
  split
  · exact (h.sync f).more (by omega) (by omega)
  split
  · exact (h.cut f n).more (by omega) (by omega)
  split
  · exact (h.arm hn hk).more (by omega) (by omega)
  split
  · exact (h.off k).more (by omega) (by omega)
  split
  · exact h.on.more (by omega) (by omega)
  split
  · exact h.more (by omega) (by omega)
  · exact h.more (by omega) (by omega)
end
end Go.Proofs.YtfinaikgikifcaaDoor.diskw
/- The plain laws of the sum over bytes: a nibble's table step is four bit steps; a bit step is linear and one to one. No program is in sight. -/
namespace Go.Proofs.YtfinaikgikifcaaDoor.crcp
open Go

/-! ### words of 32 bits -/
abbrev W := BitVec 32
def poly : W := 0xEDB88320#32
def pick (b : Bool) : W := if b then poly else 0#32
def bitV (r : W) : W := (r >>> 1) ^^^ pick (r.getLsbD 0)
theorem pick_xor (a b : Bool) : pick (a ^^ b) = pick a ^^^ pick b := by cases a <;> cases b <;> decide
theorem bitV_xor (a b : W) : bitV (a ^^^ b) = bitV a ^^^ bitV b := by
  unfold bitV
  rw [BitVec.getLsbD_xor, pick_xor, BitVec.ushiftRight_xor_distrib]
  ac_rfl
theorem bitV_even (r : W) (h : r.getLsbD 0 = false) : bitV r = r >>> 1 := by
  unfold bitV; rw [h]; simp [pick]
theorem xor_zero (a b : W) (h : a ^^^ b = 0#32) : a = b := by
  have := congrArg (· ^^^ b) h
  simpa [BitVec.xor_assoc] using this
theorem bitV_zero (d : W) (h : bitV d = 0#32) : d = 0#32 := by
  unfold bitV at h
  have h1 := xor_zero _ _ h
  cases hb : d.getLsbD 0
  · rw [hb] at h1
    have h2 : d >>> 1 = 0#32 := by rw [h1]; rfl
    apply BitVec.eq_of_getLsbD_eq
    intro i hi
    rw [BitVec.getLsbD_zero]
    match i, hi with
    | 0, _ => exact hb
    | i + 1, hi =>
      have := congrArg (fun v : W => v.getLsbD i) h2
      simp only [BitVec.getLsbD_ushiftRight, BitVec.getLsbD_zero] at this
      rw [Nat.add_comm] at this
      exact this
  · rw [hb] at h1
    have := congrArg (fun v : W => v.getLsbD 31) h1
    simp only [BitVec.getLsbD_ushiftRight] at this
    rw [BitVec.getLsbD_of_ge d _ (by omega)] at this
    exact absurd this (by decide)
theorem bitV_inj (a b : W) (h : bitV a = bitV b) : a = b := by
  have h1 : bitV (a ^^^ b) = 0#32 := by rw [bitV_xor, h, BitVec.xor_self]
  exact xor_zero _ _ (bitV_zero _ h1)

/-- n bit steps -/
def bits : Nat → W → W
  | 0, r => r
  | n + 1, r => bits n (bitV r)
theorem bits_add (m n : Nat) (r : W) : bits (m + n) r = bits n (bits m r) := by
  induction m generalizing r with
  | zero => simp [bits]
  | succ m ih => rw [Nat.succ_add]; simp only [bits]; exact ih _
theorem bits_xor (n : Nat) (a b : W) : bits n (a ^^^ b) = bits n a ^^^ bits n b := by
  induction n generalizing a b with
  | zero => rfl
  | succ n ih => simp only [bits, bitV_xor, ih]
theorem bits_inj (n : Nat) (a b : W) (h : bits n a = bits n b) : a = b := by
  induction n generalizing a b with
  | zero => exact h
  | succ n ih => exact bitV_inj _ _ (ih _ _ h)
theorem bits_zero (n : Nat) : bits n 0#32 = 0#32 := by
  induction n with
  | zero => rfl
  | succ n ih => simp only [bits]; rw [show bitV 0#32 = 0#32 from by decide]; exact ih
/-- where the lowest n bits are 0 it is a shift -/
theorem bits_low (n : Nat) (r : W) (h : ∀ i, i < n → r.getLsbD i = false) : bits n r = r >>> n := by
  induction n generalizing r with
  | zero => simp [bits]
  | succ n ih =>
    simp only [bits]
    rw [bitV_even r (h 0 (by omega)), ih]
    · rw [← BitVec.shiftRight_add, Nat.add_comm]
    · intro i hi
      rw [BitVec.getLsbD_ushiftRight, Nat.add_comm]
      exact h _ (by omega)

/-! ### the table -/
def tabN : List Nat := [0, 498536548, 997073096, 651767980, 1994146192, 1802195444, 1303535960, 1342533948, 3988292384, 4027552580, 3604390888, 3412177804, 2607071920, 2262029012, 2685067896, 3183342108]
def tab : List Int := [0, 498536548, 997073096, 651767980, 1994146192, 1802195444, 1303535960, 1342533948, 3988292384, 4027552580, 3604390888, 3412177804, 2607071920, 2262029012, 2685067896, 3183342108]
theorem tab_bits : ∀ i : Fin 16, bits 4 (BitVec.ofNat 32 i.val) = BitVec.ofInt 32 (tab.getD i.val 0) := by decide +kernel
def nibV (r : W) : W := (r >>> 4) ^^^ BitVec.ofInt 32 (tab.getD (r.toNat % 16) 0)
theorem nibV_bits (r : W) : nibV r = bits 4 r := by
  have e : r = (r &&& 0xFFFFFFF0#32) ^^^ (BitVec.ofNat 32 (r.toNat % 16)) := by
    apply BitVec.eq_of_getLsbD_eq
    intro i hi
    have hm : (0xFFFFFFF0#32).getLsbD i = decide (4 ≤ i) := by
      revert i
      decide
    have h16 : (r.toNat % 16).testBit i = (decide (i < 4) && r.getLsbD i) := by
      rw [show (16 : Nat) = 2 ^ 4 from rfl, Nat.testBit_mod_two_pow]; rfl
    have h17 : (BitVec.ofNat 32 (r.toNat % 16)).getLsbD i = (decide (i < 4) && r.getLsbD i) := by
      rw [BitVec.getLsbD_ofNat, h16]; simp [hi]
    rw [BitVec.getLsbD_xor, BitVec.getLsbD_and, h17, hm]
    by_cases h4 : i < 4
    · have : ¬ 4 ≤ i := by omega
      simp [h4, this, hi]
    · have : 4 ≤ i := by omega
      simp [h4, this, hi]
  have hl : bits 4 (r &&& 0xFFFFFFF0#32) = r >>> 4 := by
    rw [bits_low]
    · apply BitVec.eq_of_getLsbD_eq
      intro i hi
      rw [BitVec.getLsbD_ushiftRight, BitVec.getLsbD_ushiftRight, BitVec.getLsbD_and]
      by_cases h : 4 + i < 32
      · have : (0xFFFFFFF0#32).getLsbD (4 + i) = true := by
          revert i
          decide
        rw [this, Bool.and_true]
      · rw [BitVec.getLsbD_of_ge r _ (by omega), Bool.false_and]
    · intro i hi
      rw [BitVec.getLsbD_and]
      have : (0xFFFFFFF0#32).getLsbD i = false := by
        revert i
        decide
      rw [this, Bool.and_false]
  have ht : bits 4 (BitVec.ofNat 32 (r.toNat % 16)) = BitVec.ofInt 32 (tab.getD (r.toNat % 16) 0) := tab_bits ⟨r.toNat % 16, Nat.mod_lt _ (by decide)⟩
  rw [e, bits_xor, hl, ht, ← e]
  rfl
/-- one byte -/
def bytV (r x : W) : W := bits 8 (r ^^^ x)
theorem bytV_nib (r x : W) : nibV (nibV (r ^^^ x)) = bytV r x := by
  rw [nibV_bits, nibV_bits, ← bits_add]; rfl
theorem bytV_xor (r s x y : W) : bytV (r ^^^ s) (x ^^^ y) = bytV r x ^^^ bytV s y := by
  unfold bytV
  rw [← bits_xor]
  congr 1
  ac_rfl
theorem bytV_inj (r s x : W) (h : bytV r x = bytV s x) : r = s := by
  have h1 := bits_inj _ _ _ h
  have := congrArg (· ^^^ x) h1
  simpa [BitVec.xor_assoc] using this
/-- a list of bytes -/
def run (r : W) (l : List W) : W := l.foldl bytV r
theorem run_append (r : W) (a b : List W) : run r (a ++ b) = run (run r a) b := List.foldl_append ..
theorem run_inj (l : List W) (r s : W) (h : run r l = run s l) : r = s := by
  induction l generalizing r s with
  | nil => exact h
  | cons x l ih => exact bytV_inj _ _ x (ih _ _ h)
theorem run_xor (l m : List W) (h : l.length = m.length) (r s : W) : run (r ^^^ s) (List.zipWith (· ^^^ ·) l m) = run r l ^^^ run s m := by
  induction l generalizing m r s with
  | nil => cases m with
    | nil => rfl
    | cons => simp at h
  | cons x l ih => cases m with
    | nil => simp at h
    | cons y m =>
      simp only [List.zipWith_cons_cons, run, List.foldl_cons]
      rw [bytV_xor]
      exact ih m (by simpa using h) _ _

/-! ### the walk's own spelling -/
def U32 (r : Int) : Prop := 0 ≤ r ∧ r ≤ 4294967295
def xr (a b : Int) : Int := Go.bits .xor .u32 a b
def lo4 (a : Int) : Int := Go.bits .and .u32 a 15
def nib (r : Int) : Int := xr (r / 16) (tab.getD (lo4 r).toNat 0)
def flip (r : Int) : Int := Go.bits .xor .u32 IntKind.u32.max r
def byt (r x : Int) : Int := nib (nib (xr r x))
def add (s : Int) (xs : List Int) : Int := flip (xs.foldl byt (flip s))
def lowbit (r : Int) : Int := Go.bits .and .u32 r 1
def bit (r : Int) : Int := if (lowbit r == 1) = true then xr (r / 2) 3988292384 else r / 2
def refbyt (r x : Int) : Int := bit (bit (bit (bit (bit (bit (bit (bit (xr r x))))))))
def refadd (s : Int) (xs : List Int) : Int := flip (xs.foldl refbyt (flip s))
theorem U32_bits (op : BinOp) (a b : Int) : U32 (Go.bits op .u32 a b) := by
  unfold U32 Go.bits
  split <;> simp only [IntKind.wrap_u32] <;> omega
theorem U32_flip (r : Int) : U32 (flip r) := U32_bits _ _ _
theorem U32_xr (a b : Int) : U32 (xr a b) := U32_bits _ _ _
theorem U32_nib (r : Int) : U32 (nib r) := U32_xr _ _
theorem U32_add (s : Int) (xs : List Int) : U32 (add s xs) := U32_flip _
theorem U32_refadd (s : Int) (xs : List Int) : U32 (refadd s xs) := U32_flip _
theorem lo4_r (r : Int) (h : U32 r) : lo4 r = r % 16 := by
  unfold lo4
  obtain ⟨a, rfl⟩ := Int.eq_ofNat_of_zero_le h.1
  exact bits_mask .u32 32 (by decide) (fun n h0 h1 => by rw [IntKind.wrap_u32]; omega) 4 (by decide) _ h.1 (by have := h.2; omega)
theorem lowbit_r (r : Int) (h : U32 r) : lowbit r = r % 2 := by
  unfold lowbit
  obtain ⟨a, rfl⟩ := Int.eq_ofNat_of_zero_le h.1
  exact bits_mask .u32 32 (by decide) (fun n h0 h1 => by rw [IntKind.wrap_u32]; omega) 1 (by decide) _ h.1 (by have := h.2; omega)
def V (a : Int) : W := BitVec.ofInt 32 a
theorem V_nat (a : Nat) : V (a : Int) = BitVec.ofNat 32 a := BitVec.ofInt_natCast ..
theorem V_of (a : Int) (h : U32 a) : a = ((V a).toNat : Int) := by
  obtain ⟨n, rfl⟩ := Int.eq_ofNat_of_zero_le h.1
  rw [V_nat, BitVec.toNat_ofNat]
  have := h.2
  omega
theorem V_inj (a b : Int) (ha : U32 a) (hb : U32 b) (h : V a = V b) : a = b := by rw [V_of a ha, V_of b hb, h]
theorem V_xr (a b : Int) : V (xr a b) = V a ^^^ V b := by
  have e : xr a b = (((V a ^^^ V b).toNat : Nat) : Int) := by
    unfold xr Go.bits V
    simp only [IntKind.wrap_u32]
    have := (BitVec.ofInt 32 a ^^^ BitVec.ofInt 32 b).isLt
    show ((BitVec.ofInt 32 a ^^^ BitVec.ofInt 32 b).toNat : Int) % 4294967296 = _
    omega
  rw [e, V_nat, BitVec.ofNat_toNat, BitVec.setWidth_eq]
theorem V_flip (a : Int) : V (flip a) = ~~~ V a := by
  have h : V (flip a) = V IntKind.u32.max ^^^ V a := V_xr _ _
  rw [h, show V IntKind.u32.max = BitVec.allOnes 32 from by decide, BitVec.allOnes_xor]
theorem V_shift (r : Int) (h : U32 r) (k : Nat) : V (r / ((2 ^ k : Nat) : Int)) = V r >>> k := by
  obtain ⟨n, rfl⟩ := Int.eq_ofNat_of_zero_le h.1
  have hn : n < 4294967296 := by have := h.2; omega
  rw [show ((n : Int) / ((2 ^ k : Nat) : Int)) = ((n / 2 ^ k : Nat) : Int) from (Int.natCast_ediv n _).symm, V_nat, V_nat]
  apply BitVec.eq_of_toNat_eq
  rw [BitVec.toNat_ushiftRight, BitVec.toNat_ofNat, BitVec.toNat_ofNat, Nat.shiftRight_eq_div_pow, Nat.mod_eq_of_lt hn, Nat.mod_eq_of_lt]
  exact Nat.lt_of_le_of_lt (Nat.div_le_self _ _) hn
theorem V_toNat (r : Int) (h : U32 r) : (V r).toNat = r.toNat := by
  have := V_of r h
  omega
theorem V_nib (r : Int) (h : U32 r) : V (nib r) = nibV (V r) := by
  unfold nib nibV
  rw [V_xr, show r / 16 = r / ((2 ^ 4 : Nat) : Int) from rfl, V_shift r h, V_toNat r h]
  have : (lo4 r).toNat = r.toNat % 16 := by rw [lo4_r r h]; have := h.1; omega
  rw [this]
  rfl
theorem V_byt (r x : Int) : V (byt r x) = bytV (V r) (V x) := by
  unfold byt
  rw [V_nib _ (U32_nib _), V_nib _ (U32_xr _ _), V_xr, bytV_nib]
theorem V_fold (xs : List Int) (r : Int) : V (xs.foldl byt r) = run (V r) (xs.map V) := by
  induction xs generalizing r with
  | nil => rfl
  | cons x xs ih => simp only [List.foldl_cons, List.map_cons, run]; rw [ih, V_byt]; rfl
theorem V_add (s : Int) (xs : List Int) : V (add s xs) = ~~~ run (~~~ V s) (xs.map V) := by
  unfold add
  rw [V_flip, V_fold, V_flip]
theorem U32_bit (r : Int) (h : U32 r) : U32 (bit r) := by
  unfold bit
  split
  · exact U32_xr _ _
  · have := h.1; have := h.2; constructor <;> omega
theorem V_bit (r : Int) (h : U32 r) : V (bit r) = bitV (V r) := by
  have hl : (V r).getLsbD 0 = decide (r % 2 = 1) := by
    rw [BitVec.getLsbD, V_toNat r h, Nat.testBit_zero]
    have := h.1
    rw [decide_eq_decide]
    omega
  have hd : V (r / 2) = V r >>> 1 := V_shift r h 1
  unfold bit bitV
  rw [lowbit_r r h, hl]
  by_cases h1 : r % 2 = 1
  · rw [if_pos (by simp [h1]), V_xr, hd]
    simp only [h1, pick]
    rfl
  · rw [if_neg (by simp [h1]), hd]
    simp [h1, pick]
theorem V_refbyt (r x : Int) : V (refbyt r x) = bytV (V r) (V x) := by
  have h0 := U32_xr r x
  have h1 := U32_bit _ h0
  have h2 := U32_bit _ h1
  have h3 := U32_bit _ h2
  have h4 := U32_bit _ h3
  have h5 := U32_bit _ h4
  have h6 := U32_bit _ h5
  have h7 := U32_bit _ h6
  unfold refbyt
  rw [V_bit _ h7, V_bit _ h6, V_bit _ h5, V_bit _ h4, V_bit _ h3, V_bit _ h2, V_bit _ h1, V_bit _ h0, V_xr]
  rfl
theorem V_reffold (xs : List Int) (r : Int) : V (xs.foldl refbyt r) = run (V r) (xs.map V) := by
  induction xs generalizing r with
  | nil => rfl
  | cons x xs ih => simp only [List.foldl_cons, List.map_cons, run]; rw [ih, V_refbyt]; rfl
/-- the table's road and the bits' road meet -/
theorem add_ref (s : Int) (xs : List Int) : refadd s xs = add s xs := by
  refine V_inj _ _ (U32_refadd _ _) (U32_add _ _) ?_
  rw [V_add]
  unfold refadd
  rw [V_flip, V_reffold, V_flip]
theorem add_append (s : Int) (a b : List Int) : add (add s a) b = add s (a ++ b) := by
  refine V_inj _ _ (U32_add _ _) (U32_add _ _) ?_
  rw [V_add, V_add, V_add, BitVec.not_not, List.map_append, run_append]
theorem add_inj (s t : Int) (hs : U32 s) (ht : U32 t) (l : List Int) (h : add s l = add t l) : s = t := by
  refine V_inj _ _ hs ht ?_
  have h1 := congrArg V h
  rw [V_add, V_add] at h1
  have h2 := run_inj _ _ _ (BitVec.not_inj.1 h1)
  exact BitVec.not_inj.1 h2
theorem add_nil (s : Int) (hs : U32 s) : add s [] = s := by
  refine V_inj _ _ (U32_add _ _) hs ?_
  rw [V_add]; simp [run]
theorem wakes_sum : (add 0 [49, 50, 51, 52, 53, 54, 55, 56, 57] == 3421780262) = true := by decide +kernel
end Go.Proofs.YtfinaikgikifcaaDoor.crcp
/- What crc.Add, crc.Sum and the reference's Add and Sum compute: each is walked once. -/
namespace Go.Proofs.YtfinaikgikifcaaDoor.crcw
open Go.RowKit Go.Proofs.YtfinaikgikifcaaDoorW.PrintWords Go.Proofs.YtfinaikgikifcaaDoor.base Go.Proofs.YtfinaikgikifcaaDoor.crcp

def Table (w : World) : Prop := ∀ i : Nat, i < 16 → w.cell? ⟨0, i, none⟩ = some (.int .u32 (tab.getD i 0))
theorem Table.below {w w1 : World} (h : Table w) (hb : Below w.heap.size w w1) : Table w1 := fun i hi => pw_cell_below hb (h i hi)
theorem nib_step {j : Nat} {q v b : Int} (hj : j < 2) (h : q = if j = 0 then xr v b else if j = 1 then nib (xr v b) else byt v b) : nib q = if j + 1 = 0 then xr v b else if j + 1 = 1 then nib (xr v b) else byt v b := by
  subst h
  match j, hj with
  | 0, _ => rfl
  | 1, _ => rfl

set_option maxHeartbeats 400000 in
theorem add_any (s : Int) (A : Option Addr) (n c : Nat) (xs : List Int) (w : World) (hs : U32 s) (hr : RdB w A n xs) (ht : Table w) :
    Calls Tryd.prog 64 #[.int .u32 s, .slice A n c] w fun e w' => e = .returned (.int .u32 (add s xs)) ∧ w = w' := by
  have HR := Lib.hid hr
  have HT := Lib.hid ht
  have hn := hr.max
  clear hr ht hs
  go_enter Tryd.func64, Tryd.ntmps64
  go_wp2
  go_loop [5, 12] (fun r i => ∃ (k : Nat) (v : Int), k ≤ n ∧ i = .int .i64 k ∧ 0 ≤ v ∧ v ≤ 4294967295 ∧ r = .int .u32 v ∧ Aside0 (v = (xs.take k).foldl byt (flip s))) (fun _ i => n - (intOf i).toNat)
  case atStart => exact ⟨0, _, Nat.zero_le _, rfl, (U32_bits _ _ _).1, (U32_bits _ _ _).2, rfl, ⟨rfl⟩⟩
  case round =>
    obtain ⟨k, v, hk, rfl, hv0, hv1, rfl, HV⟩ := hrel
    by_cases hlt : k < n
    · obtain ⟨ad, rfl, hcell⟩ := HR.out.at_ k (by omega)
      have hb0 := (HR.out.2 k).1
      have hb1 := (HR.out.2 k).2
      have hstep := take_snoc xs k (by rw [HR.out.len]; exact hlt)
      generalize xs.getD k 0 = b at hcell hb0 hb1 hstep
      have HS := Aside0.mk hstep
      clear hstep
      have hq0 := (U32_bits .xor v b).1
      have hq1 := (U32_bits .xor v b).2
      go_wp2
      go_loop [5, 20] (fun r i => ∃ (j : Nat) (q : Int), j ≤ 2 ∧ i = .int .i64 j ∧ 0 ≤ q ∧ q ≤ 4294967295 ∧ r = .int .u32 q ∧ Aside0 (q = if j = 0 then xr v b else if j = 1 then nib (xr v b) else byt v b)) (fun _ i => 2 - (intOf i).toNat)
      case atStart => exact ⟨0, _, by omega, rfl, hq0, hq1, rfl, ⟨rfl⟩⟩
      case round =>
        obtain ⟨j, q, hj, rfl, q0, q1, rfl, HQ⟩ := hrel
        by_cases hj2 : j < 2
        · have hl := lo4_r q ⟨q0, q1⟩
          have hl0 : 0 ≤ lo4 q := by omega
          have hl1 : lo4 q ≤ 15 := by omega
          have ht := HT.out (lo4 q).toNat (by omega)
          have HN : Aside0 (nib q = xr (q / 16) (tab.getD (lo4 q).toNat 0)) := ⟨rfl⟩
          generalize tab.getD (lo4 q).toNat 0 = tv at ht HN
          clear hl
          unfold lo4 at ht hl0 hl1
          go_wp2
          go_round
          case rel => exact ⟨j + 1, nib q, by omega, by go_num, (U32_nib q).1, (U32_nib q).2, by rw [HN.out]; rfl, ⟨nib_step hj2 HQ.out⟩⟩
          case measure => simp [intOf]; omega
        · obtain rfl : j = 2 := by omega
          go_wp2
          go_round
          case rel => exact ⟨k + 1, q, by omega, by go_num, q0, q1, rfl, ⟨by rw [HS.out, List.foldl_append, ← HV.out, HQ.out]; rfl⟩⟩
          case measure => simp [intOf]; omega
    · obtain rfl : k = n := by omega
      have HF : Aside0 (v = xs.foldl byt (flip s)) := ⟨by rw [HV.out, List.take_of_length_le (by have := HR.out.len; omega)]⟩
      go_wp2
      go_ret
      exact ⟨by unfold add; rw [← HF.out]; rfl, rfl⟩


/-- j bit steps -/
def steps : Nat → Int → Int
  | 0, r => r
  | n + 1, r => bit (steps n r)
theorem steps_one {q v b : Int} {j : Nat} (h : q = steps j (xr v b)) : (Go.bits .and .u32 q 1 == 1) = true → xr (q / 2) 3988292384 = steps (j + 1) (xr v b) := by
  intro hb
  show _ = bit (steps j (xr v b))
  rw [← h]
  unfold bit lowbit
  rw [if_pos hb]
theorem steps_zero {q v b : Int} {j : Nat} (h : q = steps j (xr v b)) : (Go.bits .and .u32 q 1 == 1) = false → q / 2 = steps (j + 1) (xr v b) := by
  intro hb
  show _ = bit (steps j (xr v b))
  rw [← h]
  unfold bit lowbit
  rw [if_neg (by rw [hb]; decide)]

set_option maxHeartbeats 400000 in
theorem refadd_any (s : Int) (A : Option Addr) (n c : Nat) (xs : List Int) (w : World) (hr : RdB w A n xs) :
    Calls Tryd.prog 65 #[.int .u32 s, .slice A n c] w fun e w' => e = .returned (.int .u32 (refadd s xs)) ∧ w = w' := by
  have HR := Lib.hid hr
  have hn := hr.max
  clear hr
  go_enter Tryd.func65, Tryd.ntmps65
  go_wp2
  go_loop [5, 6] (fun r i => ∃ (k : Nat) (v : Int), k ≤ n ∧ i = .int .i64 k ∧ 0 ≤ v ∧ v ≤ 4294967295 ∧ r = .int .u32 v ∧ Aside0 (v = (xs.take k).foldl refbyt (flip s))) (fun _ i => n - (intOf i).toNat)
  case atStart => exact ⟨0, _, Nat.zero_le _, rfl, (U32_bits _ _ _).1, (U32_bits _ _ _).2, rfl, ⟨rfl⟩⟩
  case round =>
    obtain ⟨k, v, hk, rfl, hv0, hv1, rfl, HV⟩ := hrel
    by_cases hlt : k < n
    · obtain ⟨ad, rfl, hcell⟩ := HR.out.at_ k (by omega)
      have hb0 := (HR.out.2 k).1
      have hb1 := (HR.out.2 k).2
      have hstep := take_snoc xs k (by rw [HR.out.len]; exact hlt)
      generalize xs.getD k 0 = b at hcell hb0 hb1 hstep
      have HS := Aside0.mk hstep
      clear hstep
      have hq0 := (U32_bits .xor v b).1
      have hq1 := (U32_bits .xor v b).2
      go_wp2
      go_loop [5, 7] (fun r i => ∃ (j : Nat) (q : Int), j ≤ 8 ∧ i = .int .i64 j ∧ 0 ≤ q ∧ q ≤ 4294967295 ∧ r = .int .u32 q ∧ Aside0 (q = steps j (xr v b))) (fun _ i => 8 - (intOf i).toNat)
      case atStart => exact ⟨0, _, by omega, rfl, hq0, hq1, rfl, ⟨rfl⟩⟩
      case round =>
        obtain ⟨j, q, hj, rfl, q0, q1, rfl, HQ⟩ := hrel
        by_cases hj2 : j < 8
        · cases hbit : (Go.bits .and .u32 q 1 == 1)
          · have h2 := Aside0.mk (steps_zero HQ.out hbit)
            go_wp2
            go_round
            case rel => exact ⟨j + 1, q / 2, by omega, by go_num, by omega, by omega, rfl, h2⟩
            case measure => simp [intOf]; omega
          · have h2 := Aside0.mk (steps_one HQ.out hbit)
            go_wp2
            go_round
            case rel => exact ⟨j + 1, xr (q / 2) 3988292384, by omega, by go_num, (U32_xr _ _).1, (U32_xr _ _).2, rfl, h2⟩
            case measure => simp [intOf]; omega
        · obtain rfl : j = 8 := by omega
          go_wp2
          go_round
          case rel => exact ⟨k + 1, q, by omega, by go_num, q0, q1, rfl, ⟨by rw [HS.out, List.foldl_append, ← HV.out, HQ.out]; rfl⟩⟩
          case measure => simp [intOf]; omega
    · obtain rfl : k = n := by omega
      have HF : Aside0 (v = xs.foldl refbyt (flip s)) := ⟨by rw [HV.out, List.take_of_length_le (by have := HR.out.len; omega)]⟩
      go_wp2
      go_ret
      exact ⟨by unfold refadd; rw [← HF.out]; rfl, rfl⟩

theorem refsum_any (A : Option Addr) (n c : Nat) (xs : List Int) (w : World) (hr : RdB w A n xs) :
    Calls Tryd.prog 58 #[.slice A n c] w fun e w' => e = .returned (.int .u32 (refadd 0 xs)) ∧ w = w' := by
  have HR := Lib.hid hr
  clear hr
  go_enter Tryd.func58, Tryd.ntmps58
  go_wp2_with (go_at_call 65; refine (refadd_any _ _ _ _ xs _ HR.out).mono ?_; rintro e w' ⟨rfl, rfl⟩)
  go_ret
  exact ⟨rfl, rfl⟩
end Go.Proofs.YtfinaikgikifcaaDoor.crcw
/- What crc.Parts computes. -/
namespace Go.Proofs.YtfinaikgikifcaaDoor.crcw
open Go.RowKit Go.Proofs.YtfinaikgikifcaaDoorW.PrintWords Go.Proofs.YtfinaikgikifcaaDoor.base Go.Proofs.YtfinaikgikifcaaDoor.crcp

def parts (s : Int) (xss : List (List Int)) : Int := xss.foldl add s
theorem U32_parts (s : Int) (hs : U32 s) (xss : List (List Int)) : U32 (parts s xss) := by
  unfold parts
  induction xss generalizing s with
  | nil => exact hs
  | cons x xss ih => exact ih _ (U32_add _ _)

set_option maxHeartbeats 400000 in
theorem parts_any (A : Option Addr) (n c : Nat) (xss : List (List Int)) (w : World) (hr : RdBB w A n xss) (ht : Table w) :
    Calls Tryd.prog 54 #[.slice A n c] w fun e w' => e = .returned (.int .u32 (parts 0 xss)) ∧ w = w' := by
  have HR := Lib.hid hr
  have HT := Lib.hid ht
  have hn := hr.2.1
  clear hr ht
  go_enter Tryd.func54, Tryd.ntmps54
  go_wp2
  go_loop [3, 8] (fun r i => ∃ (k : Nat) (v : Int), k ≤ n ∧ i = .int .i64 k ∧ 0 ≤ v ∧ v ≤ 4294967295 ∧ r = .int .u32 v ∧ Aside0 (v = parts 0 (xss.take k))) (fun _ i => n - (intOf i).toNat)
  case atStart => exact ⟨0, 0, Nat.zero_le _, rfl, by omega, by omega, rfl, ⟨rfl⟩⟩
  case round =>
    obtain ⟨k, v, hk, rfl, hv0, hv1, rfl, HV⟩ := hrel
    by_cases hlt : k < n
    · obtain ⟨ad, rfl, a, m, c1, hcell, hmc, hrow⟩ := HR.out.at_ k (by omega)
      have HRow := Lib.hid hrow
      have HS := Aside0.mk (take_snoc2 xss k (by rw [HR.out.1]; exact hlt))
      clear hrow
      go_wp2_with (go_at_call 64; refine (add_any v _ _ _ _ _ ⟨hv0, hv1⟩ HRow.out HT.out).mono ?_; rintro e w' ⟨rfl, rfl⟩)
      go_round
      case rel => exact ⟨k + 1, _, by omega, by go_num, (U32_add _ _).1, (U32_add _ _).2, rfl, ⟨by rw [HS.out]; unfold parts; rw [List.foldl_append, HV.out]; rfl⟩⟩
      case measure => simp [intOf]; omega
    · obtain rfl : k = n := by omega
      have HF : Aside0 (v = parts 0 xss) := ⟨by rw [HV.out, List.take_of_length_le (by have := HR.out.1; omega)]⟩
      go_wp2
      go_ret
      exact ⟨by rw [← HF.out]; rfl, rfl⟩
end Go.Proofs.YtfinaikgikifcaaDoor.crcw
/- What frames are as bytes: plain laws. -/
namespace Go.Proofs.YtfinaikgikifcaaDoor.framep
open Go.RowKit Go.Proofs.YtfinaikgikifcaaDoorW.PrintWords Go.Proofs.YtfinaikgikifcaaDoor.base Go.Proofs.YtfinaikgikifcaaDoor.crcp Go.Proofs.YtfinaikgikifcaaDoor.crcw

/-- the word of four bytes, the lowest first -/
def w4 (xs : List Int) : Int := xs.getD 0 0 + xs.getD 1 0 * 256 + xs.getD 2 0 * 65536 + xs.getD 3 0 * 16777216
/-- a word's four bytes -/
def le4 (S : Int) : List Int := [S % 256, S / 256 % 256, S / 65536 % 256, S / 16777216]
theorem By_le4 {S : Int} (h : U32 S) : By (le4 S) := By_of _ fun z hz => by
  obtain ⟨h0, h1⟩ := h
  simp [le4] at hz
  omega
theorem w4_le4 {S : Int} (h : U32 S) (r : List Int) : w4 (le4 S ++ r) = S := by
  obtain ⟨h0, h1⟩ := h
  simp [w4, le4]
  omega
theorem By.getD {xs : List Int} (h : By xs) (i : Nat) : 0 ≤ xs.getD i 0 ∧ xs.getD i 0 ≤ 255 := by
  rw [List.getD_eq_getElem?_getD]
  rcases Nat.lt_or_ge i xs.length with hi | hi
  · rw [List.getElem?_eq_getElem hi]; exact h.mem _ (List.getElem_mem _)
  · rw [List.getElem?_eq_none hi]; simp
theorem w4_range {xs : List Int} (h : By xs) : U32 (w4 xs) := by
  have h0 := By.getD h 0
  have h1 := By.getD h 1
  have h2 := By.getD h 2
  have h3 := By.getD h 3
  unfold w4 U32
  omega
theorem w4_bits {a b c d : Int} (ha : 0 ≤ a ∧ a ≤ 255) (hb : 0 ≤ b ∧ b ≤ 255) (hc : 0 ≤ c ∧ c ≤ 255) (hd : 0 ≤ d ∧ d ≤ 255) :
    Go.bits .or .u32 (Go.bits .or .u32 (Go.bits .or .u32 a (b * 256)) (c * 65536)) (d * 16777216) = a + b * 256 + c * 65536 + d * 16777216 := by
  simp (disch := omega) only [u32_or8, u32_or16, u32_or24]
/-- how many bytes the frame has with which bytes begin; 0: none -/
def firstN (xs : List Int) : Nat := if xs.length < 8 then 0 else if 1048576 < (w4 xs).toNat ∨ xs.length - 8 < (w4 xs).toNat ∨ parts 0 [xs.take 4, (xs.drop 8).take (w4 xs).toNat] ≠ w4 (xs.drop 4) then 0 else 8 + (w4 xs).toNat
end Go.Proofs.YtfinaikgikifcaaDoor.framep
/- What frame.word and frame.first compute. -/
namespace Go.Proofs.YtfinaikgikifcaaDoor.framew
open Go.RowKit Go.Proofs.YtfinaikgikifcaaDoorW.PrintWords Go.Proofs.YtfinaikgikifcaaDoor.base Go.Proofs.YtfinaikgikifcaaDoor.mem Go.Proofs.YtfinaikgikifcaaDoor.crcp Go.Proofs.YtfinaikgikifcaaDoor.crcw Go.Proofs.YtfinaikgikifcaaDoor.samew Go.Proofs.YtfinaikgikifcaaDoor.framep

theorem word_any (A : Option Addr) (n c : Nat) (xs : List Int) (w : World) (hr : RdB w A n xs) (hn : 4 ≤ n) :
    Calls Tryd.prog 68 #[.slice A n c] w fun e w' => e = .returned (.int .u32 (w4 xs)) ∧ ∃ q, w' = w.drewN q := by
  obtain ⟨ad, e0, h0⟩ := hr.at_ 0 (by omega)
  subst e0
  obtain ⟨ad1, e1, h1⟩ := hr.at_ 1 (by omega)
  obtain ⟨ad2, e2, h2⟩ := hr.at_ 2 (by omega)
  obtain ⟨ad3, e3, h3⟩ := hr.at_ 3 (by omega)
  injection e1 with e1
  injection e2 with e2
  injection e3 with e3
  subst e1 e2 e3
  have b0 := By.getD hr.2 0
  have b1 := By.getD hr.2 1
  have b2 := By.getD hr.2 2
  have b3 := By.getD hr.2 3
  have HE : Hid (w4 xs = xs.getD 0 0 + xs.getD 1 0 * 256 + xs.getD 2 0 * 65536 + xs.getD 3 0 * 16777216) := Lib.hid rfl
  generalize xs.getD 0 0 = x0 at h0 b0 HE
  generalize xs.getD 1 0 = x1 at h1 b1 HE
  generalize xs.getD 2 0 = x2 at h2 b2 HE
  generalize xs.getD 3 0 = x3 at h3 b3 HE
  have hs : ad.spot = none := by
    have := World.cell?_spot h0
    simpa [Addr.add] using this
  obtain ⟨b, off, sp⟩ := ad
  subst hs
  have ap : ∀ k, (⟨b, off, none⟩ : Addr).add k = ⟨b, off + k, none⟩ := fun k => by unfold Addr.add; split <;> simp_all
  rw [ap] at h0 h1 h2 h3
  have l0 : 0 < n := by omega
  have l1 : 1 < n := by omega
  have l2 : 2 < n := by omega
  have l3 : 3 < n := by omega
  have h0 : w.cell? ⟨b, off, none⟩ = some (.int .u8 x0) := h0
  clear hr ap
  go_enter Tryd.func68, Tryd.ntmps68
  go_wp2
  go_region
  go_wp2
  go_ret
  exact ⟨by rw [HE.out, ← w4_bits b0 b1 b2 b3]; rfl, _, rfl⟩
set_option maxHeartbeats 1000000 in
theorem first_any (A : Option Addr) (n c : Nat) (xs : List Int) (w : World) (hr : RdB w A n xs) (hc : n ≤ c) (ht : Table w) :
    Calls Tryd.prog 63 #[.slice A n c] w fun e w' => e = .returned (.int .i64 (firstN xs : Nat)) ∧ Below w.heap.size w w' := by
  have HR := Lib.hid hr
  have HT := Lib.hid ht
  have hlen := hr.len
  have hmax := hr.max
  have hU := w4_range hr.2
  have hU4 := w4_range (hr.2.drop 4)
  clear hr ht
  by_cases h8 : n < 8
  · have HF : Hid (firstN xs = 0) := Lib.hid (by unfold firstN; rw [if_pos (by omega)])
    go_enter Tryd.func63, Tryd.ntmps63
    go_wp2
    go_ret
    exact ⟨by rw [HF.out]; rfl, Below.refl _ _⟩
  have HW := Lib.hid (word_any A n c xs w HR.out (by omega))
  have HFdef : Hid (firstN xs = if 1048576 < (w4 xs).toNat ∨ xs.length - 8 < (w4 xs).toNat ∨ parts 0 [xs.take 4, (xs.drop 8).take (w4 xs).toNat] ≠ w4 (xs.drop 4) then 0 else 8 + (w4 xs).toNat) := Lib.hid (by unfold firstN; rw [if_neg (by omega)])
  obtain ⟨v, hv⟩ := Int.eq_ofNat_of_zero_le hU.1
  have hv1 : v ≤ 4294967295 := by have := hU.2; omega
  rw [hv] at HW HFdef
  have HFdef : Hid (firstN xs = if 1048576 < v ∨ n - 8 < v ∨ parts 0 [xs.take 4, (xs.drop 8).take v] ≠ w4 (xs.drop 4) then 0 else 8 + v) := Lib.hid (by rw [HFdef.out, hlen]; rfl)
  clear hv hU
  by_cases hbig : 1048576 < v
  · have HF : Hid (firstN xs = 0) := Lib.hid (by rw [HFdef.out, if_pos (.inl hbig)])
    have hb : decide ((1048576 : Int) < (v : Int)) = true := decide_eq_true (by omega)
    have hbn : decide (1048576 < v) = true := decide_eq_true hbig
    go_enter Tryd.func63, Tryd.ntmps63
    go_wp2_with fail
    refine HW.out.mono ?_
    rintro e w1 ⟨rfl, q, rfl⟩
    go_wp2_with fail
    go_quiet (fail)
    go_wp2
    go_ret
    exact ⟨by rw [HF.out]; rfl, pw_below_drewN (pw_below_drewN (Below.refl _ _) _) _⟩
  by_cases hlong : n - 8 < v
  · have HF : Hid (firstN xs = 0) := Lib.hid (by rw [HFdef.out, if_pos (.inr (.inl hlong))])
    have hb : decide ((1048576 : Int) < (v : Int)) = false := decide_eq_false (by omega)
    have hbn : decide (1048576 < v) = false := decide_eq_false hbig
    have hb2 : decide (((n : Int) - 8) < (v : Int)) = true := decide_eq_true (by omega)
    go_enter Tryd.func63, Tryd.ntmps63
    go_wp2_with fail
    refine HW.out.mono ?_
    rintro e w1 ⟨rfl, q, rfl⟩
    go_wp2_with fail
    go_quiet (fail)
    go_wp2
    go_ret
    exact ⟨by rw [HF.out]; rfl, pw_below_drewN (pw_below_drewN (Below.refl _ _) _) _⟩
  have hb : decide ((1048576 : Int) < (v : Int)) = false := decide_eq_false (by omega)
  have hbn : decide (1048576 < v) = false := decide_eq_false hbig
  have hb2 : decide (((n : Int) - 8) < (v : Int)) = false := decide_eq_false (by omega)
  obtain ⟨A8, n8, c8, hcut8, a1, a2, a3, hrd8⟩ := cutLH A n c 8 (8 + v) (by omega) (by omega) hc
  obtain ⟨A4, n4, c4, hcut4, d1, d2, d3, hrd4⟩ := cutL A n c 4 (by omega) hc
  have e8 : ((8 + v : Nat) : Int) = 8 + (v : Int) := by omega
  have hcut8 : ∀ W : World, (Instr.slice 22 (.slice A n c) (some (.int .i64 8)) (some (.int .i64 (8 + (v : Int)))) none).run Tryd.prog W = .ok (.slice A8 n8 c8) W := fun W => by have := hcut8 W; rw [e8] at this; exact this
  have hcut4 : ∀ W : World, (Instr.slice 22 (.slice A n c) (some (.int .i64 4)) none none).run Tryd.prog W = .ok (.slice A4 n4 c4) W := hcut4
  have h4c : 4 ≤ c := by omega
  have h4i : (4 : Int) ≤ (c : Int) := by omega
  have hwd : v ≤ 9223372036854775807 := by omega
  go_enter Tryd.func63, Tryd.ntmps63
  go_wp2_with fail
  refine HW.out.mono ?_
  rintro e w1 ⟨rfl, q, rfl⟩
  go_wp2_with fail
  have hw1 : IntKind.i64.wrap (v : Int) = v := by rw [IntKind.wrap_i64]; omega
  have hw2 : IntKind.i64.wrap ((n : Int) - 8) = (n : Int) - 8 := by rw [IntKind.wrap_i64]; omega
  have hw3 : IntKind.i64.wrap (8 + (v : Int)) = 8 + (v : Int) := by rw [IntKind.wrap_i64]; omega
  have RR : Hid (∀ W : World, W.heap.size = w.heap.size → RdB W A n xs → RdBB (W.alloc (.cells #[.slice A 4 c, .slice A8 n8 c8] 22)) (some ⟨w.heap.size, 0, none⟩) 2 [xs.take 4, (xs.drop 8).take v]) := Lib.hid fun W hW h => by
    have h1 := h.take 4 (by omega)
    have h2 := hrd8 W xs h
    have e : (xs.take (8 + v)).drop 8 = (xs.drop 8).take v := by rw [List.drop_take]; congr 1; omega
    rw [e] at h2
    have := rows2 h1 h4c h2 a3 22
    rw [hW] at this
    exact this
  have RA : Hid (∀ q, RdB (w.drewN q).drew A n xs ∧ Table (w.drewN q).drew) := Lib.hid fun q => ⟨(HR.out.drawn q).below (Below.refl _ _).drew, (HT.out.below (pw_below_drewN (Below.refl _ _) q)).below (Below.refl _ _).drew⟩
  have BA : Hid (∀ q, Below w.heap.size w ((w.drewN q).drew.alloc (.cells #[.slice A 4 c, .slice A8 n8 c8] 22))) := Lib.hid fun q => ((pw_below_drewN (Below.refl w.heap.size w) q).drew).alloc (by simp) _
  have HU4 := Lib.hid hU4
  generalize hps : parts 0 [xs.take 4, (xs.drop 8).take v] = ps at HFdef
  have HPS := Lib.hid hps
  clear hps hU4
  go_region_held3 (fun _ => True) (trivial) (first | (go_at_call 54; refine (parts_any _ _ _ _ _ (RR.out _ (by simp) (RA.out _).1) (((RA.out _).2).below (below_alloc (Below.refl _ _) _))).mono ?_; rintro e w5 ⟨rfl, rfl⟩; rw [HPS.out]) | (go_at_call 68; refine (word_any _ _ _ _ _ (hrd4 _ _ (((RA.out _).1).below (below_alloc (Below.refl _ _) _))) (by omega)).mono ?_; rintro e w6 ⟨rfl, q6, rfl⟩))
  clear hw1 hw2 hw3
  have hBfin := Lib.hid (pw_below_drewN (pw_below_drewN (Below.refl w.heap.size w) (q + 1) |>.alloc (by simp) (.cells #[.slice A 4 c, .slice A8 n8 c8] 22)) q6)
  obtain ⟨z, hz⟩ : ∃ z, w4 (xs.drop 4) = z := ⟨_, rfl⟩
  rw [hz] at HFdef ⊢
  by_cases he : ps = z
  · have HF : Hid (firstN xs = 8 + v) := Lib.hid (by rw [HFdef.out, if_neg (by intro h; rcases h with h | h | h; exact hbig h; exact hlong h; exact h he)])
    have hne : (ps != z) = false := by simpa using he
    clear he
    go_wp2
    go_ret
    exact ⟨by rw [HF.out]; exact congrArg (fun t => Ending.returned (.int .i64 t)) (by omega), hBfin.out⟩
  · have HF : Hid (firstN xs = 0) := Lib.hid (by rw [HFdef.out, if_pos (.inr (.inr he))])
    have hne : (ps != z) = true := by simpa using he
    clear he
    go_wp2
    go_ret
    exact ⟨by rw [HF.out]; rfl, hBfin.out⟩
end Go.Proofs.YtfinaikgikifcaaDoor.framew
/- A range over a function whose rounds are told what they are handed: the law of the statement with a word on the round's values. -/
namespace Go.Proofs.YtfinaikgikifcaaDoor.over
open Go.RowKit
variable {F : Fence} {n : Nat} {P : Program} {α : Type}

/-- the loop's record, and the block for its rounds' deferred calls -/
structure RecAt (R : Loop) (d l : Nat) (W : World) : Prop where
  loop : W.heap[l]? = some (.loop R)
  defd : W.heap[d]? = some (.deferred (some []))
theorem RecAt.put {R : Loop} {d l : Nat} {W : World} (h : RecAt R d l W) (hne : d ≠ l) (R' : Loop) : RecAt R' d l (W.putObj l (.loop R')) :=
  ⟨World.putObj_heap_same (Array.getElem?_eq_some_iff.1 h.loop).1, (World.putObj_heap_other hne).trans h.defd⟩
theorem RecAt.keeps {R : Loop} {d l B : Nat} {W W' : World} (h : RecAt R d l W) (hk : KeepsFrom B W W') (hd : B ≤ d) (hl : B ≤ l) : RecAt R d l W' :=
  ⟨hk.same _ _ hl h.loop rfl, hk.same _ _ hd h.defd rfl⟩
theorem RecAt.abides {B : Nat} {R : Loop} {d l : Nat} {W W' : World} {row : Option Nat} (h : RecAt R d l W) (hg : W.grownBy W' row) (hr : ∀ r, row = some r → B ≤ r ∧ ∃ o : Obj, W.heap[r]? = some o ∧ o.isWalk = true) : RecAt R d l W' :=
  ⟨(grownBy_keeps hg (fun r e => (hr r e).2) h.loop rfl).trans h.loop, (grownBy_keeps hg (fun r e => (hr r e).2) h.defd rfl).trans h.defd⟩

/-- the cells of a world stand in a later one -/
def CK (A B : World) : Prop := A.heap.size ≤ B.heap.size ∧ ∀ (i : Nat) (o : Obj), A.heap[i]? = some o → o.isCells = true → B.heap[i]? = some o
theorem CK.of_below {A B : World} (h : Below A.heap.size A B) : CK A B := ⟨h.size, fun i o ho _ => by rw [h.block i (Array.getElem?_eq_some_iff.1 ho).1]; exact ho⟩
theorem CK.put {A B : World} (h : CK A B) {l : Nat} {o : Obj} (o' : Obj) (hl : B.heap[l]? = some o) (ho : o.isCells = false) : CK A (B.putObj l o') :=
  ⟨by simpa using h.1, fun i z hz hc => by
    have h1 := h.2 i z hz hc
    have hne : i ≠ l := by intro e; subst e; rw [hl] at h1; injection h1 with h1; subst h1; rw [ho] at hc; cases hc
    exact (World.putObj_heap_other hne).trans h1⟩
theorem CK.cell {A B : World} (h : CK A B) {a : Addr} {v : Value} (hc : A.cell? a = some v) : B.cell? a = some v := by
  obtain ⟨o, ho, hk⟩ := cells_of_cell hc
  rw [← hc]
  exact World.cell?_of_block ((h.2 _ _ ho hk).trans ho.symm)
/-- the iterator's contract: V: what it tells a round of the value it hands over; B: all new memory since its call -/
def SeqV (F : Fence) (n : Nat) (P : Program) (g : Nat) (lb : Array Value) (encs : α → Array Value) (Kp : World → World → Prop) (V : Nat → List α → α → World → Prop) (S Sp : List α → Prop) (w : World) : Prop :=
  ∀ (l : Nat) (J Jx : List α → World → Prop) (W : World), Below w.heap.size w W → AbidesFrom W.heap.size J → AbidesFrom W.heap.size Jx →
    (∀ pre x W0 W1, J pre W0 → J pre W1 → W.heap.size ≤ W0.heap.size → CK W0 W1 → V W0.heap.size pre x W1 → YieldAt F (n - 1) P l (encs x) W1 fun e W' =>
      (e = .returned (.bool true) ∧ J (pre ++ [x]) W' ∧ Kp W1 W') ∨ (e = .returned (.bool false) ∧ Jx (pre ++ [x]) W')) →
    J [] W →
    CallsIn F n P g (#[.func (.yield l) #[] #[]] ++ lb) W fun e W' => (∃ v, e = .returned v) ∧ ((∃ xs, S xs ∧ J xs W') ∨ (∃ pre, Sp pre ∧ Jx pre W'))
theorem SeqV.stops {g : Nat} {lb : Array Value} {encs : α → Array Value} {Kp : World → World → Prop} {V : Nat → List α → α → World → Prop} {S Sp : List α → Prop} {w : World} {N : Nat}
    (h : SeqV F n P g lb encs Kp V S Sp w) (hN : ∀ B pre x W, V B pre x W → pre.length < N) : SeqStopsK F n P g lb encs Kp S Sp N w :=
  fun l J Jx W hW hJ hJx hY h0 => h l J Jx W hW hJ hJx (fun pre x W0 W1 _ hj _ _ hv => hY pre x W1 hj (hN _ _ _ _ hv)) h0

/-- a round -/
theorem yieldAt_of {m : Nat} {R : Loop} {d l : Nat} {W : World} (h : RecAt R d l W) (hr : R.state = .ready) (hF : F.fn R.fn) {args : Array Value} (hs : args.size = R.params.size) (a₁ : Act) (T : Exit → Act → World → Prop) (Rp : Ending → World → Prop)
    (hassign : ∀ K : Act → World → Prop, K a₁ W → R.assign.wpIn (F.inRound l) m P (Exit.then K (fun _ _ _ => False)) { tmps := (R.params.zip args).foldl (fun tmps (t, a) => tmps.setIfInBounds t a) R.tmps, defers := [] } W)
    (hbody : R.body.wpIn (F.inRound l) m P T a₁ (W.putObj l (.loop { R with state := .busy }))) (hT : ∀ e a W3, T e a W3 → roundPost P l Rp e a W3) : YieldAt F m P l args W Rp :=
  ⟨_, _, _, _, run_yield h.loop hs, roundIn_of_wpIn hF (hassign _ ⟨_, run_beginRound h.loop hr, wpIn_mono hbody hT⟩)⟩
/-- the statement -/
theorem wpIn_overV {g : Operand} {ps : Array Tmp} {assign body : Code} {Q : Exit → Act → World → Prop} {a : Act} {w : World}
    (hro : F.round = none) (h1 : 1 ≤ n) {gf : Nat} {lb : Array Value} (hg : a.eval g = .func (.func gf) #[] lb) (hFg : F.fn gf) (eg : ∀ args w, (callFunc gf args).run P w = .ok (.enter gf args) w)
    {encs : α → Array Value} {Kp : World → World → Prop} {V : Nat → List α → α → World → Prop} {S Sp : List α → Prop} {w0 : World} (hseq : SeqV F (n - 1) P gf lb encs Kp V S Sp w0)
    (hKt : ∀ {A B C : World}, Kp A B → Kp B C → Kp A C) (hKb : ∀ (W : World) (l : Nat) (o o' : Obj), w.heap.size ≤ l → W.heap[l]? = some o → o.isCells = false → o.isWalk = false → Kp W (W.putObj l o')) (hb0 : Below w0.heap.size w0 w) (hps : ∀ x, (encs x).size = ps.size)
    (hV : ∀ B, OwnFrom w.heap.size (fun (z : List α × α) W => V B z.1 z.2 W))
    (I : List α → World → Prop) (Ix : Code → List α → World → Prop) (hI : OwnFrom w.heap.size I) (hIx : ∀ c, OwnFrom w.heap.size (Ix c)) (h0 : I [] w) (a₁ : α → Act)
    (hassign : ∀ (l : Nat) (x : α) (W : World) (K : Act → World → Prop), K (a₁ x) W →
      assign.wpIn (F.inRound l) (n - 1 - 1) P (Exit.then K (fun _ _ _ => False)) { tmps := (ps.zip (encs x)).foldl (fun t (p, v) => t.setIfInBounds p v) a.tmps, defers := [] } W)
    (hbody : ∀ (l : Nat) (pre : List α) (x : α) (W0 W : World), I pre W0 → I pre W → w.heap.size ≤ W0.heap.size → CK W0 W → V W0.heap.size pre x W → body.wpIn (F.inRound l) (n - 1 - 1) P (ownPostG w.heap.size Kp I Ix (pre ++ [x]) W) (a₁ x) W)
    (hdone : ∀ (D : Nat) (xs : List α) (W : World), w.heap.size ≤ D → S xs → I xs W → W.heap[D]? = some (.deferred (some [])) → Q .normal { a with defers := { target := .collected D, args := #[] } :: a.defers } W)
    (hstop : ∀ (D : Nat) (c : Code) (pre : List α) (W : World), w.heap.size ≤ D → Sp pre → Ix c pre W → W.heap[D]? = some (.deferred (some [])) → c.wpIn F n P Q { a with defers := { target := .collected D, args := #[] } :: a.defers } W) :
    (Code.rangeFunc g ps assign body).wpIn F n P Q a w := by
  refine wpIn_rangeFunc fun fn hfn => ?_
  rw [hro]
  refine ⟨_, _, ((w.alloc (.deferred (some []))).alloc (.loop { state := .ready, pending := none, fn, tmps := a.tmps, params := ps, assign, body, defers := w.heap.size })), { target := .fn (.func gf) lb, args := #[.func (.yield (w.heap.size + 1)) #[] #[]] }, ((w.alloc (.deferred (some []))).alloc (.loop { state := .ready, pending := none, fn, tmps := a.tmps, params := ps, assign, body, defers := w.heap.size })), gf, #[.func (.yield (w.heap.size + 1)) #[] #[]] ++ lb, ((w.alloc (.deferred (some []))).alloc (.loop { state := .ready, pending := none, fn, tmps := a.tmps, params := ps, assign, body, defers := w.heap.size })), run_enterLoop_outer fn a.tmps ps assign body, by simp only [resolve, hg]; simp [go_sem], ?_, by simp [invoke, go_sem, eg], fun _ => h1, ?_⟩
  · intro f' hf'
    simp [Target.leads] at hf'
    subst hf'
    exact hFg
  have hdl : w.heap.size ≠ w.heap.size + 1 := by omega
  have hB0 : Below w.heap.size w ((w.alloc (.deferred (some []))).alloc (.loop { state := .ready, pending := none, fn, tmps := a.tmps, params := ps, assign, body, defers := w.heap.size })) :=
    ((Below.refl _ w).alloc (Nat.le_refl _) _).alloc (by simp) _
  have hA0 : RecAt { state := .ready, pending := none, fn, tmps := a.tmps, params := ps, assign, body, defers := w.heap.size } w.heap.size (w.heap.size + 1) ((w.alloc (.deferred (some []))).alloc (.loop { state := .ready, pending := none, fn, tmps := a.tmps, params := ps, assign, body, defers := w.heap.size })) := by
    refine ⟨?_, (Below.heap_alloc _ _ _ (by simp)).trans (World.alloc_heap_new w _)⟩
    have := World.alloc_heap_new (w.alloc (.deferred (some []))) (.loop { state := .ready, pending := none, fn, tmps := a.tmps, params := ps, assign, body, defers := w.heap.size })
    rwa [World.size_alloc] at this
  have hz0 : ((w.alloc (.deferred (some []))).alloc (.loop { state := .ready, pending := none, fn, tmps := a.tmps, params := ps, assign, body, defers := w.heap.size })).heap.size = w.heap.size + 1 + 1 := by simp
  have hi0 := hI.alloc (.loop { state := .ready, pending := none, fn, tmps := a.tmps, params := ps, assign, body, defers := w.heap.size }) (hI.alloc (.deferred (some [])) h0)
  generalize (w.alloc (.deferred (some []))).alloc (.loop { state := .ready, pending := none, fn, tmps := a.tmps, params := ps, assign, body, defers := w.heap.size }) = w1 at hB0 hA0 hz0 hi0 ⊢
  have hrow : ∀ {A : World} {row : Option Nat}, (∀ r, row = some r → w1.heap.size ≤ r ∧ ∃ o : Obj, A.heap[r]? = some o ∧ o.isWalk = true) → (∀ r, row = some r → w.heap.size ≤ r ∧ ∃ o : Obj, A.heap[r]? = some o ∧ o.isCells = false) := fun hr r e => by
    obtain ⟨h1, o, ho, hw⟩ := hr r e
    exact ⟨by omega, o, ho, Obj.not_cells_of_walk hw⟩
  refine (hseq (w.heap.size + 1)
    (fun pre W => I pre W ∧ RecAt { state := .ready, pending := none, fn, tmps := a.tmps, params := ps, assign, body, defers := w.heap.size } w.heap.size (w.heap.size + 1) W)
    (fun pre W => ∃ c, Ix c pre W ∧ RecAt { state := .done, pending := some c, fn, tmps := a.tmps, params := ps, assign, body, defers := w.heap.size } w.heap.size (w.heap.size + 1) W) w1 (hb0.trans (hB0.mono hb0.size))
    (fun s A B row hs hg' hr => ⟨hI s A B row hs.1 hg' (hrow (A := A) hr), hs.2.abides hg' hr⟩)
    (fun s A B row hs hg' hr => by obtain ⟨c, hc, hl⟩ := hs; exact ⟨c, hIx c s A B row hc hg' (hrow (A := A) hr), hl.abides hg' hr⟩) ?_ ⟨hi0, hA0⟩).mono ?_
  · rintro pre x W0 W ⟨hj0, _⟩ ⟨hi, hA⟩ hz hck hv
    have hbz := hA.put hdl { state := .busy, pending := none, fn, tmps := a.tmps, params := ps, assign, body, defers := w.heap.size }
    refine yieldAt_of hA rfl hfn (hps x) (a₁ x) _ _ (fun K hK => hassign _ x W K hK) (hbody _ pre x W0 _ hj0 (hI.putObj _ hi (by omega) hA.loop rfl) (by omega) (hck.put _ hA.loop rfl) ((hV W0.heap.size).putObj (s := (pre, x)) _ hv (by omega) hA.loop rfl)) ?_
    intro e a3 W3 hp
    cases e with
    | normal =>
      obtain ⟨hk, hkp, hi3⟩ := hp
      have h3 := hbz.keeps hk (Nat.le_refl _) (by omega)
      exact ⟨_, _, run_endRound none h3.loop, .inl ⟨rfl, ⟨hI.putObj _ hi3 (by omega) h3.loop rfl, h3.put hdl _⟩, hKt (hKt (hKb _ _ _ _ (by omega) hA.loop rfl rfl) hkp) (hKb _ _ _ _ (by omega) h3.loop rfl rfl)⟩⟩
    | ret =>
      obtain ⟨hk, hi3⟩ := hp
      have h3 := hbz.keeps hk (Nat.le_refl _) (by omega)
      exact ⟨_, _, run_endRound (some .ret) h3.loop, .inr ⟨rfl, .ret, (hIx _).putObj _ hi3 (by omega) h3.loop rfl, h3.put hdl _⟩⟩
    | exit id =>
      obtain ⟨hk, hi3⟩ := hp
      have h3 := hbz.keeps hk (Nat.le_refl _) (by omega)
      exact ⟨_, _, run_endRound (some (.exit id)) h3.loop, .inr ⟨rfl, .exit id, (hIx _).putObj _ hi3 (by omega) h3.loop rfl, h3.put hdl _⟩⟩
    | goto t =>
      obtain ⟨hk, hi3⟩ := hp
      have h3 := hbz.keeps hk (Nat.le_refl _) (by omega)
      exact ⟨_, _, run_endRound (some (.goto t)) h3.loop, .inr ⟨rfl, .goto t, (hIx _).putObj _ hi3 (by omega) h3.loop rfl, h3.put hdl _⟩⟩
    | panic ch => exact hp.elim
    | outgrown => exact hp.elim
  · rintro e W2 ⟨⟨v, rfl⟩, ⟨xs, hS, hi, hA⟩ | ⟨pre, hSp, c, hi, hA⟩⟩
    · exact ⟨none, _, run_endLoop hA.loop (by simp), hdone _ xs _ (Nat.le_refl _) hS (hI.putObj _ hi (by omega) hA.loop rfl) (hA.put hdl { state := .exhausted, pending := none, fn, tmps := a.tmps, params := ps, assign, body, defers := w.heap.size }).defd⟩
    · exact ⟨some c, _, run_endLoop hA.loop (by simp), hstop _ c pre _ (Nat.le_refl _) hSp ((hIx c).putObj _ hi (by omega) hA.loop rfl) (hA.put hdl { state := .exhausted, pending := some c, fn, tmps := a.tmps, params := ps, assign, body, defers := w.heap.size }).defd⟩
end Go.Proofs.YtfinaikgikifcaaDoor.over
/- The iterator of frame.Frames has its contract (places and lengths); frame.End. -/
namespace Go.Proofs.YtfinaikgikifcaaDoor.frameit
open Go.RowKit Go.Shelf Go.Proofs.YtfinaikgikifcaaDoorW.PrintWords Go.Proofs.YtfinaikgikifcaaDoor.base Go.Proofs.YtfinaikgikifcaaDoor.mem Go.Proofs.YtfinaikgikifcaaDoor.crcp Go.Proofs.YtfinaikgikifcaaDoor.crcw Go.Proofs.YtfinaikgikifcaaDoor.samew Go.Proofs.YtfinaikgikifcaaDoor.keep Go.Proofs.YtfinaikgikifcaaDoor.framep Go.Proofs.YtfinaikgikifcaaDoor.framew Go.Proofs.YtfinaikgikifcaaDoor.over
attribute [local go_sem] Oper.semAt_some

/-- the function value's own bytes, in a band of the heap -/
def NumsAt (lo hi : Nat) (W : World) (Bs : Nat) (xs : List Int) : Prop := lo ≤ Bs ∧ Bs < hi ∧ ∃ A n c, W.cell? ⟨Bs, 0, none⟩ = some (.slice A n c) ∧ n ≤ c ∧ n ≤ 140737488355328 ∧ RdB W A n xs ∧ Lies lo hi A n
theorem bandCell {lo hi b i : Nat} {w w' : World} {v : Value} (h : Band lo hi w w') (h1 : lo ≤ b) (h2 : b < hi) (hc : w.cell? ⟨b, i, none⟩ = some v) : w'.cell? ⟨b, i, none⟩ = some v := by
  rw [← hc]; exact World.cell?_of_block (by exact h.2 b h1 h2)
theorem bandTrans {lo hi : Nat} {w w1 w2 : World} (h : Band lo hi w w1) (k : Band lo hi w1 w2) : Band lo hi w w2 := ⟨k.1, fun i a b => (k.2 i a b).trans (h.2 i a b)⟩
theorem band_put {lo hi : Nat} {w : World} (hw : hi ≤ w.heap.size) (W : World) (l : Nat) (o o' : Obj) (hl : w.heap.size ≤ l) (ho : W.heap[l]? = some o) (_ : o.isCells = false) (_ : o.isWalk = false) : Band lo hi W (W.putObj l o') := by
  have hlt := (Array.getElem?_eq_some_iff.1 ho).1
  refine ⟨?_, fun i _ b => ?_⟩
  · have : (W.putObj l o').heap.size = W.heap.size := by simp [World.putObj]
    omega
  · have : i ≠ l := by omega
    simp [World.putObj, this, Ne.symm this]
theorem NumsAt.band {lo hi Bs : Nat} {W W' : World} {xs : List Int} (h : NumsAt lo hi W Bs xs) (hb : Band lo hi W W') : NumsAt lo hi W' Bs xs := by
  obtain ⟨h0, h1, A, n, c, h2, h3, h4, h5, h6⟩ := h
  exact ⟨h0, h1, A, n, c, bandCell hb h0 h1 h2, h3, h4, RdB.band h5 h6 hb, h6⟩

theorem firstN_le (xs : List Int) : firstN xs ≤ xs.length := by
  unfold firstN
  split
  · omega
  · split
    · omega
    · rename_i h1 h2
      have : ¬ xs.length - 8 < (w4 xs).toNat := fun h => h2 (.inr (.inl h))
      omega
theorem firstN_ge (xs : List Int) (h : firstN xs ≠ 0) : 8 ≤ firstN xs := by
  unfold firstN at h ⊢
  split
  · rename_i h1; rw [if_pos h1] at h; exact absurd rfl h
  · rename_i h1
    rw [if_neg h1] at h
    split
    · rename_i h2; rw [if_pos h2] at h; exact absurd rfl h
    · omega
/-- places and payloads' lengths of the good frames -/
def fitems : Nat → Nat → List Int → List (Nat × Nat)
  | 0, _, _ => []
  | f + 1, p, xs => if firstN xs = 0 then [] else (p, firstN xs - 8) :: fitems f (p + firstN xs) (xs.drop (firstN xs))
theorem fitems_end (f p : Nat) (xs : List Int) (h : firstN xs = 0) : fitems f p xs = [] := by
  cases f with
  | zero => rfl
  | succ f => rw [fitems, if_pos h]
theorem fitems_next (f p : Nat) (xs : List Int) (h : firstN xs ≠ 0) : fitems (f + 1) p xs = (p, firstN xs - 8) :: fitems f (p + firstN xs) (xs.drop (firstN xs)) := by rw [fitems, if_neg h]
def flist (xs : List Int) : List (Nat × Nat) := fitems xs.length 0 xs
/-- what a round is handed -/
structure It where
  p : Nat
  A : Option Addr
  n : Nat
  c : Nat
  hp : p ≤ 140737488355328
  hn : n ≤ 140737488355328
def It.key (x : It) : Nat × Nat := (x.p, x.n)
abbrev encs (x : It) : Array Value := #[.int .i64 (x.p : Int), .slice x.A x.n x.c]
theorem eqlNil (A : Option Addr) (n c : Nat) (W : World) : (binOp .eql 22 (.slice A n c) (.slice none 0 0)).run Tryd.prog W = .ok (.bool A.isNone) W := by
  simp only [binOp]
  simp [run_equal_slice_nil W 22 5 A n c Tryd.underlying22]
theorem clone_any (A : Option Addr) (n c : Nat) (xs : List Int) (w : World) (hr : RdB w A n xs) (hn : n ≤ 140737488355328) :
    Calls Tryd.prog 31 #[.slice A n c] w fun e w' => ∃ A1 n1 c1, e = .returned (.slice A1 n1 c1) ∧ OwB w' w.heap.size A1 n1 c1 xs ∧ Below w.heap.size w w' := by
  have HR := Lib.hid hr
  have R0 := Lib.hid (Below.refl w.heap.size w)
  cases A with
  | none =>
    have h0 : n = 0 := by
      rcases Nat.eq_zero_or_pos n with h | h
      · exact h
      · obtain ⟨ad, he, _⟩ := hr.at_ 0 h; cases he
    subst h0
    obtain rfl : xs = [] := List.eq_nil_of_length_eq_zero hr.len
    clear hr
    go_enter Tryd.func31, Tryd.ntmps31
    have hen := fun W => eqlNil none 0 c W
    go_wp2
    go_ret
    exact ⟨none, 0, 0, rfl, OwB.nil _ _, Below.refl _ _⟩
  | some ad =>
    clear hr
    go_enter Tryd.func31, Tryd.ntmps31
    have hen := fun W => eqlNil (some ad) n c W
    go_wp2_with (first | (at_builtin; refine app (w0 := w) (base := w.heap.size) rfl (.tmp 5) (.tmp 6) rfl rfl rfl (OwB.lit0 w _ (Nat.le_refl _)) (HR.out.below (R0.out.alloc (Nat.le_refl _) _)) (R0.out.alloc (Nat.le_refl _) _) ?s2 ?l2 ?_; (case s2 => simp); (case l2 => omega); intro A2 n2 c2 w2 ho hb; have hl := ho.len; rw [List.nil_append] at ho; rw [List.nil_append, HR.out.len] at hl; subst hl; have HO2 := Lib.hid ho; have HB2 := Lib.hid hb; clear ho hb))
    go_ret
    exact ⟨A2, n, c2, rfl, HO2.out, HB2.out⟩
def RetF (w : World) (xs : List Int) (e : Ending) (w' : World) : Prop := ∃ Bs, e = .returned (.func (.func 62) #[] #[.pointer (some ⟨Bs, 0, none⟩)]) ∧ NumsAt w.heap.size w'.heap.size w' Bs xs ∧ Below w.heap.size w w'
theorem frames_any (A : Option Addr) (n c : Nat) (xs : List Int) (w : World) (hr : RdB w A n xs) (hn : n ≤ 140737488355328) :
    Calls Tryd.prog 50 #[.slice A n c] w (RetF w xs) := by
  have HC := Lib.hid (clone_any A n c xs w hr hn)
  have hl := hr.len
  clear hr
  go_enter Tryd.func50, Tryd.ntmps50
  go_wp2_with fail
  refine HC.out.mono ?_
  rintro e w2 ⟨A2, n2, c2, rfl, ho, hb⟩
  have hl2 := ho.len
  have HO2 := Lib.hid ho
  have HB2 := Lib.hid hb
  clear ho hb
  go_wp2
  go_ret
  refine ⟨w2.heap.size, rfl, ⟨HB2.out.size, by simp, A2, n2, c2, by simp, HO2.out.cap, by omega, (HO2.out.alloc _).rd, OwB.lies HO2.out (Nat.le_refl _) (by simp)⟩, HB2.out.alloc HB2.out.size _⟩
/-- what a round keeps: the iterator's own bytes, and the table -/
def KT (lo hi : Nat) (W W' : World) : Prop := Band lo hi W W' ∧ (Table W → Table W') ∧ W.heap.size ≤ W'.heap.size
theorem KT.trans {lo hi : Nat} {A B C : World} (h : KT lo hi A B) (k : KT lo hi B C) : KT lo hi A C := ⟨bandTrans h.1 k.1, fun t => k.2.1 (h.2.1 t), Nat.le_trans h.2.2 k.2.2⟩
theorem Table.lt {w : World} (h : Table w) : 0 < w.heap.size := World.block_lt_of_cell? _ _ (h 0 (by decide))
theorem KT.put {lo hi : Nat} {w : World} (hw : hi ≤ w.heap.size) (ht : Table w) (W : World) (l : Nat) (o o' : Obj) (hl : w.heap.size ≤ l) (ho : W.heap[l]? = some o) (hc : o.isCells = false) (hk : o.isWalk = false) : KT lo hi W (W.putObj l o') :=
  ⟨band_put hw W l o o' hl ho hc hk, fun t i hi => by
    rw [← t i hi]
    have := Table.lt ht
    exact World.cell?_of_block (World.putObj_heap_other (by show 0 ≠ l; omega)), by simp⟩
theorem bandBelow {lo hi : Nat} {w w' : World} (h : Below w.heap.size w w') (hw : hi ≤ w.heap.size) : Band lo hi w w' := ⟨by have := h.size; omega, fun i a b => h.block i (by omega)⟩
theorem KT.below {lo hi : Nat} {w w' : World} (hb : Below w.heap.size w w') (hw : hi ≤ w.heap.size) : KT lo hi w w' := ⟨bandBelow hb hw, fun t => t.below hb, hb.size⟩
theorem OwB.kept {w w' : World} {base n c : Nat} {A : Option Addr} {ys : List Int} (h : OwB w base A n c ys) {row : Option Nat} (hg : w.grownBy w' row) (hr : ∀ r, row = some r → ∃ o : Obj, w.heap[r]? = some o ∧ o.isCells = false) : OwB w' base A n c ys := by
  refine ⟨h.1.kept hg ?_, h.2⟩
  rcases h.1.2 with ⟨hv, _⟩ | ⟨g, cap, cur, hv, _, hb, _, _, _⟩
  · injection hv with h1 _ _
    subst h1
    exact .inl rfl
  · injection hv with h1 _ _
    subst h1
    refine .inr fun e => ?_
    obtain ⟨o, ho, hc⟩ := hr g e.symm
    rw [hb] at ho
    injection ho with ho
    subst ho
    cases hc
/-- the payload of a round -/
def pay (xs : List Int) (x : It) : List Int := (xs.drop (x.p + 8)).take x.n
/-- what a round is told -/
def V (xs : List Int) (B : Nat) (pre : List It) (x : It) (W : World) : Prop := (pre ++ [x]).map It.key <+: flist xs ∧ OwB W B x.A x.n x.c (pay xs x)
theorem pay_eq {xs : List Int} {p k : Nat} {A : Option Addr} {c : Nat} {h1 h2} (hk : 8 ≤ k) : (xs.take (p + k)).drop (p + 8) = pay xs ⟨p, A, k - 8, c, h1, h2⟩ := by
  unfold pay
  rw [List.drop_take]
  congr 1
  show p + k - (p + 8) = k - 8
  omega
theorem V.own {xs : List Int} {b : Nat} (B : Nat) : OwnFrom b (fun (z : List It × It) W => V xs B z.1 z.2 W) := fun z W W' row h hg hr => ⟨h.1, OwB.kept h.2 hg fun r e => (hr r e).2⟩
set_option maxRecDepth 100000 in
set_option maxHeartbeats 2000000 in
theorem all1_in (n : Nat) (hn : 1 ≤ n) (l Bs lo hi : Nat) (xs : List Int) (J Jx : List It → World → Prop)
    (B : Nat) (hY : ∀ pre x W0 W, J pre W0 → J pre W → B ≤ W0.heap.size → CK W0 W → V xs W0.heap.size pre x W → YieldAt Fence.wide (n - 1) Tryd.prog l (encs x) W fun e W' =>
      (e = .returned (.bool true) ∧ J (pre ++ [x]) W' ∧ KT lo hi W W') ∨ (e = .returned (.bool false) ∧ Jx (pre ++ [x]) W'))
    (W : World) (hBW : B ≤ W.heap.size) (hN : NumsAt lo hi W Bs xs) (hW : hi ≤ W.heap.size) (hT : Table W) (hab : AbidesFrom W.heap.size J) (h0 : J [] W) :
    CallsIn Fence.wide n Tryd.prog 62 #[.func (.yield l) #[] #[], .pointer (some ⟨Bs, 0, none⟩)] W fun e W' => (∃ v, e = .returned v) ∧
      ((∃ ys, ys.map It.key = flist xs ∧ J ys W') ∨ (∃ pre, pre.map It.key <+: flist xs ∧ Jx pre W')) := by
  obtain ⟨A, m, c, hcell0, hc, hm, hR0, hL⟩ : ∃ A n c, W.cell? ⟨Bs, 0, none⟩ = some (.slice A n c) ∧ n ≤ c ∧ n ≤ 140737488355328 ∧ RdB W A n xs ∧ Lies lo hi A n := hN.2.2
  have hBs := hN.1
  have hBs2 := hN.2.1
  have HR := Lib.hid hR0
  have HL := Lib.hid hL
  have hlen := hR0.len
  have HC := Lib.hid hcell0
  have HAB : Hid (∀ s w1 w2, J s w1 → Below w1.heap.size w1 w2 → J s w2) := Lib.hid fun s w1 w2 hj hb => hab s w1 w2 none hj (grown_of_below hb none) (fun r e => by cases e)
  have HT0 := Lib.hid hT
  clear hN hR0 hL hcell0 hab hT
  refine callsIn_of_wp Tryd.func62 rfl trivial ?_ rfl
  simp only [Tryd.ntmps62, List.size_toArray, List.length_cons, List.length_nil, Nat.reduceAdd, Nat.reduceSub, Array.replicate_succ, Array.replicate_zero, List.push_toArray, List.append_toArray, List.nil_append, List.cons_append]
  gi_wp2
  gi_loopw [3] (fun i wr => ∃ (p f : Nat) (pre : List It), p ≤ m ∧ i = .int .i64 p ∧ m - p ≤ f ∧ Aside0 (pre.map It.key ++ fitems f p (xs.drop p) = flist xs) ∧ Aside0 (J pre wr) ∧ Aside0 (KT lo hi W wr)) (fun i _ => m - (intOf i).toNat)
  case atStart => exact ⟨0, xs.length, [], by omega, rfl, by omega, ⟨rfl⟩, ⟨h0⟩, ⟨Band.refl hW, fun t => t, Nat.le_refl _⟩⟩
  case round =>
    obtain ⟨p, f, pre, hp, rfl, hf, HE, HJ, HB⟩ := hrel
    have hcell : wr.cell? ⟨Bs, 0, none⟩ = some (.slice A m c) := bandCell HB.out.1 hBs hBs2 HC.out
    obtain ⟨A2, n2, c2, hcut, hm1, hm2, hm3, hrd⟩ := cutL A m c p hp hc
    have HRr := Lib.hid (RdB.band HR.out HL.out HB.out.1)
    have HTr := Lib.hid (HB.out.2.1 HT0.out)
    have HF := Lib.hid (first_any A2 n2 c2 (xs.drop p) wr (hrd _ _ HRr.out) hm3 HTr.out)
    have hd := firstN_le (xs.drop p)
    have hg := firstN_ge (xs.drop p)
    rw [List.length_drop, hlen] at hd
    have hbw : hi ≤ wr.heap.size := HB.out.1.1
    clear hrd
    by_cases h0 : firstN (xs.drop p) = 0
    · have hE := HE.out
      rw [fitems_end _ _ _ h0, List.append_nil] at hE
      have HE := Lib.hid hE
      rw [h0] at HF
      clear hE h0 hd hg
      gi_wp2_with (refine ⟨trivial, ?_⟩; gi_at_call 63; refine (callsIn_wide.2 HF.out).mono ?_; rintro e w5 ⟨rfl, hb⟩; have HJ5 := Lib.hid (HAB.out _ _ _ HJ.out hb); clear hb)
      refine ⟨trivial, ?_⟩
      gi_wp2
      refine ⟨fun _ h => (by cases h), ?_⟩
      gi_wp2
      refine bodyPost_ret (results_none rfl _ _ _) rfl ?_
      exact ⟨⟨_, rfl⟩, .inl ⟨pre, HE.out, HJ5.out⟩⟩
    · have hg8 := hg h0
      have hN := Lib.hid (fitems_next (f - 1) p (xs.drop p) h0)
      generalize hk : firstN (xs.drop p) = k at HF hd hg8 h0 hN
      clear hg
      obtain ⟨f', rfl⟩ : ∃ f', f = f' + 1 := ⟨f - 1, by omega⟩
      have hE := HE.out
      rw [show f' + 1 - 1 = f' from rfl] at hN
      rw [hN.out, List.drop_drop] at hE
      have HE := Lib.hid hE
      clear hE hk hN
      obtain ⟨A3, n3, c3, hcut3, q1, q2, q3, hrd3⟩ := cutLH A m c (p + 8) (p + k) (by omega) (by omega) hc
      have e8 : ((p + 8 : Nat) : Int) = (p : Int) + 8 := by omega
      have ek : ((p + k : Nat) : Int) = (p : Int) + (k : Int) := by omega
      have hcut3 : ∀ W : World, (Instr.slice 22 (.slice A m c) (some (.int .i64 ((p : Int) + 8))) (some (.int .i64 ((p : Int) + (k : Int)))) none).run Tryd.prog W = .ok (.slice A3 n3 c3) W := fun W => by have := hcut3 W; rw [e8, ek] at this; exact this
      obtain rfl : n3 = k - 8 := by omega
      have hkb : ((k : Int) == 0) = false := beq_eq_false_iff_ne.2 (by omega)
      clear e8 ek
      gi_wp2_with (first | (refine ⟨trivial, ?_⟩; gi_at_call 63; refine (callsIn_wide.2 HF.out).mono ?_; rintro e w5 ⟨rfl, hb⟩; have HJ5 := Lib.hid (HAB.out _ _ _ HJ.out hb); have HB5 := Lib.hid (KT.trans HB.out (KT.below hb hbw)); have hcell5 : w5.cell? ⟨Bs, 0, none⟩ = some (.slice A m c) := bandCell HB5.out.1 hBs hBs2 HC.out; have HR5 := Lib.hid (RdB.band HR.out HL.out HB5.out.1); have hs5 := hb.size; clear hb) | (refine ⟨trivial, ?_⟩; gi_at_call 31; refine (callsIn_wide.2 (clone_any A3 (k - 8) c3 _ w5 (hrd3 _ _ HR5.out) (by omega))).mono ?_; rintro e w6 ⟨A4, n4, c4, rfl, ho, hb⟩; have hn4 : n4 = k - 8 := (by have h1 := ho.len; have h2 := (hrd3 _ _ HR5.out).len; omega); subst hn4; have HJ6 := Lib.hid (HAB.out _ _ _ HJ5.out hb); have HB6 := Lib.hid (KT.trans HB5.out (KT.below hb (by omega))); obtain ⟨fn, tmps, assign, body, hy, hR⟩ := hY pre ⟨p, A4, k - 8, c4, (by omega), (by omega)⟩ w5 w6 HJ5.out HJ6.out (Nat.le_trans hBW HB5.out.2.2) (CK.of_below hb) ⟨⟨_, by rw [← HE.out]; simp [It.key]; rfl⟩, (by have h3 := ho; rw [pay_eq (by omega)] at h3; exact h3)⟩; dsimp only [encs] at hy; clear ho hb))
      refine hR.mono ?_
      rintro e W3 (⟨rfl, hJ3, hk3⟩ | ⟨rfl, hJx3⟩)
      · have HJ3 := Lib.hid hJ3
        have HB3 := Aside0.mk (KT.trans HB6.out hk3)
        clear hJ3 hk3
        gi_wp2
        go_roundw
        case rel => exact ⟨p + k, f', pre ++ [⟨p, A4, k - 8, c4, (by omega), (by omega)⟩], by omega, by go_num, by omega, ⟨by rw [← HE.out]; simp [It.key]⟩, ⟨HJ3.out⟩, HB3⟩
        case measure => simp [intOf]; omega
      · gi_wp2
        refine bodyPost_ret (results_none rfl _ _ _) rfl ?_
        exact ⟨⟨_, rfl⟩, .inr ⟨_, ⟨_, by rw [← HE.out]; simp [It.key]; rfl⟩, hJx3⟩⟩
theorem all_v (n : Nat) (hn : 1 ≤ n) (Bs lo hi : Nat) (xs : List Int) (w : World) (hn₀ : hi ≤ w.heap.size) (hN : NumsAt lo hi w Bs xs) (hT : Table w) :
    SeqV Fence.wide n Tryd.prog 62 #[.pointer (some ⟨Bs, 0, none⟩)] encs (KT lo hi) (V xs) (fun ys => ys.map It.key = flist xs) (fun pre => pre.map It.key <+: flist xs) w := fun l J Jx W hW hJ _ hY h0 =>
  all1_in n hn l Bs lo hi xs J Jx _ hY W (Nat.le_refl _) (hN.band (bandBelow hW hn₀)) (Nat.le_trans hn₀ hW.size) (hT.below hW) hJ h0
theorem all_stops (n : Nat) (hn : 1 ≤ n) (Bs lo hi : Nat) (xs : List Int) (w : World) (hn₀ : hi ≤ w.heap.size) (hN : NumsAt lo hi w Bs xs) (hT : Table w) :
    SeqStopsK Fence.wide n Tryd.prog 62 #[.pointer (some ⟨Bs, 0, none⟩)] encs (KT lo hi) (fun ys => ys.map It.key = flist xs) (fun pre => pre.map It.key <+: flist xs) (flist xs).length w :=
  (all_v n hn Bs lo hi xs w hn₀ hN hT).stops fun B pre x W hv => by
    have h1 := hv.1.length_le
    simp at h1
    omega
end Go.Proofs.YtfinaikgikifcaaDoor.frameit
/- What frame.End computes. -/
namespace Go.Proofs.YtfinaikgikifcaaDoor.frameit
open Go.RowKit Go.Shelf Go.Proofs.YtfinaikgikifcaaDoorW.PrintWords Go.Proofs.YtfinaikgikifcaaDoor.base Go.Proofs.YtfinaikgikifcaaDoor.mem Go.Proofs.YtfinaikgikifcaaDoor.crcp Go.Proofs.YtfinaikgikifcaaDoor.crcw Go.Proofs.YtfinaikgikifcaaDoor.samew Go.Proofs.YtfinaikgikifcaaDoor.keep Go.Proofs.YtfinaikgikifcaaDoor.framep Go.Proofs.YtfinaikgikifcaaDoor.framew
attribute [local go_sem] Oper.semAt_some

def endL (L : List (Nat × Nat)) : Nat := match L.getLast? with | none => 0 | some x => x.1 + 8 + x.2
def endOf (pre : List It) : Nat := endL (pre.map It.key)
theorem endOf_snoc (pre : List It) (x : It) : endOf (pre ++ [x]) = x.p + 8 + x.n := by simp [endOf, endL, It.key]
theorem KT.set {lo hi p : Nat} {W : World} (hw : hi ≤ W.heap.size) (hp : p < lo) (hg : p ≠ 0) (v : Value) : KT lo hi W (W.setCell ⟨p, 0, none⟩ v) :=
  ⟨(Band.refl hw).set (.inl hp) _ _, fun t i hi => by
    rw [World.cell?_setCell_other _ _ _ _ (by intro e; injection e with e; exact hg e)]
    exact t i hi, by simp [World.setCell]⟩
theorem keepsFrom_set {B : Nat} {W : World} (p : Addr) (v : Value) : KeepsFrom B W (W.setCell p v) := (KeepsOthers.setCell W p v).from B
set_option maxHeartbeats 2000000 in
set_option maxRecDepth 100000 in
theorem end_any (A : Option Addr) (n c : Nat) (xs : List Int) (w : World) (hr : RdB w A n xs) (hn : n ≤ 140737488355328) (ht : Table w) :
    Calls Tryd.prog 49 #[.slice A n c] w fun e w' => e = .returned (.int .i64 (endL (flist xs) : Nat)) ∧ Below w.heap.size w w' := by
  have HR := Lib.hid hr
  have HT := Lib.hid ht
  have hg := Table.lt ht
  have B1 := Lib.hid (below_alloc (Below.refl w.heap.size w) (.cells #[.int .i64 0] 3))
  have hs1 := B1.out.size
  have hz1 : (w.alloc (.cells #[.int .i64 0] 3)).heap.size = w.heap.size + 1 := by simp
  have p0 : (w.alloc (.cells #[.int .i64 0] 3)).cell? ⟨w.heap.size, 0, none⟩ = some (.int .i64 0) := by simp
  have r0 : (w.alloc (.cells #[.int .i64 0] 3)).frozen? ⟨w.heap.size, 0, none⟩ = false := by simp
  clear hr ht
  refine (callsIn_wide (n := 6)).1 ?_
  refine callsIn_of_wp_marks Tryd.func49 rfl trivial ?_ rfl
  simp only [Tryd.ntmps49, List.size_toArray, List.length_cons, List.length_nil, Nat.reduceAdd, Nat.reduceSub, Array.replicate_succ, Array.replicate_zero, List.push_toArray, List.append_toArray, List.nil_append, List.cons_append]
  refine wpIn_wide.2 ?_
  go_wp2_with fail
  refine (frames_any _ _ _ xs _ (HR.out.below B1.out) hn).mono ?_
  rintro e w2 ⟨Bs, rfl, hN, hb⟩
  have p2 := pw_cell_below hb p0
  have r2 : w2.frozen? ⟨w.heap.size, 0, none⟩ = false := (hb.frozen (p := ⟨w.heap.size, 0, none⟩) (by rw [hz1]; show w.heap.size < _; omega)).trans r0
  have B2 := Lib.hid (B1.out.trans (hb.mono hs1))
  have hs2 : w.heap.size + 1 ≤ w2.heap.size := by rw [← hz1]; exact hb.size
  rw [hz1] at hN
  have HNN := all_stops (6 - 1) (by decide) Bs _ _ xs w2 (Nat.le_refl _) hN (HT.out.below B2.out)
  have HT2 := Lib.hid (HT.out.below B2.out)
  clear hb hN p0 r0 hz1 hs1
  go_wp2
  refine (wpIn_wide (n := 6)).1 ?_
  refine' wpIn_rangeFunc_ownG rfl (by decide) (gf := 62) (lb := #[.pointer (some ⟨Bs, 0, none⟩)]) rfl trivial (enters_of Tryd.func62 (by kernel_rfl) rfl) HNN (fun h k => KT.trans h k) (KT.put (Nat.le_refl _) HT2.out) (Below.refl _ _) (fun _ => rfl)
    (fun pre W => ((W.cell? ⟨w.heap.size, 0, none⟩ = some (.int .i64 (endOf pre : Nat)) ∧ W.frozen? ⟨w.heap.size, 0, none⟩ = false) ∧ w2.heap.size ≤ W.heap.size) ∧ Below w.heap.size w W)
    (fun _ _ _ => False)
    (OwnFrom.and (Own.from (fun s A B row hs hg hr => ⟨⟨cell_kept hs.1.1 hg hr, (frozen_kept hs.1.1 hg hr).trans hs.1.2⟩, Nat.le_trans hs.2 hg.size⟩) _) (ownFrom_below (Nat.le_refl _) (by omega)))
    (fun _ _ _ _ _ hs _ _ => hs)
    ⟨⟨⟨p2, r2⟩, Nat.le_refl _⟩, B2.out⟩ _ ?assign ?body ?done ?stop
  case assign =>
    intro l x W K hK
    gi_wp2
    exact hK
  case body =>
    rintro l pre ⟨p, A5, n5, c5, hp, hn5⟩ W ⟨⟨⟨hc, hf⟩, hsz⟩, hB⟩ hlt
    have HE : Hid (∀ t : Int, t = (p : Int) + 8 + n5 → KeepsFrom w2.heap.size W (W.setCell ⟨w.heap.size, 0, none⟩ (.int .i64 t)) ∧ KT (w.heap.size + 1) w2.heap.size W (W.setCell ⟨w.heap.size, 0, none⟩ (.int .i64 t)) ∧ (((W.setCell ⟨w.heap.size, 0, none⟩ (.int .i64 t)).cell? ⟨w.heap.size, 0, none⟩ = some (.int .i64 (endOf (pre ++ [⟨p, A5, n5, c5, hp, hn5⟩]) : Nat)) ∧ (W.setCell ⟨w.heap.size, 0, none⟩ (.int .i64 t)).frozen? ⟨w.heap.size, 0, none⟩ = false) ∧ w2.heap.size ≤ (W.setCell ⟨w.heap.size, 0, none⟩ (.int .i64 t)).heap.size) ∧ Below w.heap.size w (W.setCell ⟨w.heap.size, 0, none⟩ (.int .i64 t))) := Lib.hid (by
      rintro t rfl
      refine ⟨keepsFrom_set _ _, KT.set hsz (by omega) (by omega) _, ⟨⟨?_, by rw [World.frozen?_setCell]; exact hf⟩, by simpa [World.setCell] using hsz⟩, hB.setCell (p := ⟨w.heap.size, 0, none⟩) (Nat.le_refl _) _⟩
      rw [endOf_snoc, World.cell?_setCell_same' _ _ _ (by rw [hc]; rfl)]
      simp)
    gi_wp2
    exact HE.out _ (by omega)
  case done =>
    rintro D ys W hD hS ⟨⟨⟨hc, hf⟩, hsz⟩, hB⟩ hK
    have HS : Hid (endOf ys = endL (flist xs)) := Lib.hid (by unfold endOf; rw [hS])
    go_wp2
    refine ⟨by simp, .inl ⟨_, _, rfl, run_takeDeferred hK, ?_⟩⟩
    exact ⟨_, results_tmp rfl _ _ _, by rw [← HS.out]; rfl, hB.trans (belowK_b (w := w) (Nat.le_refl _) W D _ _ (by omega) hK rfl rfl)⟩
  case stop =>
    rintro D c pre W _ _ h _
    exact h.elim
end Go.Proofs.YtfinaikgikifcaaDoor.frameit
/- What frame.Encode and the reference's Encode compute. -/
namespace Go.Proofs.YtfinaikgikifcaaDoor.framem
open Go.RowKit Go.Proofs.YtfinaikgikifcaaDoorW.PrintWords Go.Proofs.YtfinaikgikifcaaDoor.base Go.Proofs.YtfinaikgikifcaaDoor.mem Go.Proofs.YtfinaikgikifcaaDoor.crcp Go.Proofs.YtfinaikgikifcaaDoor.crcw Go.Proofs.YtfinaikgikifcaaDoor.samew Go.Proofs.YtfinaikgikifcaaDoor.framep Go.Proofs.YtfinaikgikifcaaDoor.framew Go.Proofs.YtfinaikgikifcaaDoor.frameit

/-- a payload's frame -/
def fenc (xs : List Int) : List Int := le4 xs.length ++ le4 (parts 0 [le4 xs.length, xs]) ++ xs
theorem parts2 (a b : List Int) : parts 0 [a, b] = add 0 (a ++ b) := add_append 0 a b
theorem U32_len {n : Nat} (h : n ≤ 1048576) : U32 (n : Int) := ⟨by omega, by omega⟩
set_option maxHeartbeats 1000000 in
theorem four_any (w0 : World) (base : Nat) (A : Option Addr) (n c : Nat) (xs : List Int) (S : Int) (w : World) (ho : OwB w base A n c xs) (hbs : base ≤ w.heap.size) (hB : Below base w0 w) (hU : U32 S) (hl : n + 4 ≤ 140737488355328) :
    Calls Tryd.prog 53 #[.slice A n c, .int .u32 S] w fun e w' => ∃ A1 n1 c1, e = .returned (.slice A1 n1 c1) ∧ OwB w' base A1 n1 c1 (xs ++ le4 S) ∧ Below base w0 w' := by
  have HO := Lib.hid ho
  have HB := Lib.hid hB
  have hU0 := hU.1
  have hU1 := hU.2
  have HBy := Lib.hid (By_le4 hU)
  clear ho hB hU
  go_enter Tryd.func53, Tryd.ntmps53
  go_wp2_with (first | (at_builtin; refine app (w0 := w0) (base := base) rfl (.tmp 5) (.tmp 17) rfl rfl rfl (HO.out.alloc _) (litB w (0, 0) (le4 S) (Nat.le_of_ble_eq_true rfl) HBy.out) (HB.out.alloc hbs _) ?s5 ?l5 ?_; (case s5 => simp; omega); (case l5 => omega); intro A5 n5 c5 w5 ho hb; have HO5 := Lib.hid ho; have B5 := Lib.hid hb; clear ho hb))
  go_ret
  exact ⟨A5, n5, c5, rfl, HO5.out, B5.out⟩
set_option maxHeartbeats 1000000 in
theorem reffour_any (S : Int) (w : World) (hU : U32 S) :
    Calls Tryd.prog 57 #[.int .u32 S] w fun e w' => ∃ A1 c1, e = .returned (.slice A1 4 c1) ∧ 4 ≤ c1 ∧ RdB w' A1 4 (le4 S) ∧ Below w.heap.size w w' := by
  have hU0 := hU.1
  have hU1 := hU.2
  have HBy := Lib.hid (By_le4 hU)
  have HL := Lib.hid (litB w (0, 0) (le4 S) (Nat.le_of_ble_eq_true rfl) HBy.out)
  have B1 := Lib.hid (below_alloc (Below.refl w.heap.size w) (.cells (nums .u8 (le4 S)).toArray 5 (0, 0)))
  clear hU
  go_enter Tryd.func57, Tryd.ntmps57
  go_wp2
  go_ret
  exact ⟨_, _, rfl, Nat.le_refl _, HL.out, B1.out⟩
def RetE (w : World) (v : Bool) (E : List Int) (e : Ending) (w' : World) : Prop := ∃ A n c, e = .returned (.tuple #[.slice A n c, .int .i64 (if v then 0 else 3)]) ∧ OwB w' w.heap.size A n c (if v then E else []) ∧ Below w.heap.size w w'
set_option maxHeartbeats 1000000 in
theorem encode_any (A : Option Addr) (n c : Nat) (xs : List Int) (w : World) (hr : RdB w A n xs) (hc : n ≤ c) (ht : Table w) :
    Calls Tryd.prog 37 #[.slice A n c] w (RetE w (decide (n ≤ 1048576)) (fenc xs)) := by
  have HR := Lib.hid hr
  have HT := Lib.hid ht
  have hlen := hr.len
  have hmax := hr.max
  clear hr ht
  by_cases hb : n ≤ 1048576
  · have hd : decide (n ≤ 1048576) = true := decide_eq_true hb
    rw [hd]
    have hU := U32_len hb
    have HF : Hid (fenc xs = le4 n ++ le4 (parts 0 [le4 n, xs]) ++ xs) := Lib.hid (by unfold fenc; rw [hlen])
    have HP := Lib.hid (U32_parts 0 ⟨by decide, by decide⟩ [le4 n, xs])
    have H4 := Lib.hid (four_any w w.heap.size none 0 0 [] n w (OwB.nil _ _) (Nat.le_refl _) (Below.refl _ _) hU (by omega))
    clear hU hd hlen
    go_enter Tryd.func37, Tryd.ntmps37
    go_wp2_with fail
    refine H4.out.mono ?_
    rintro e w2 ⟨A2, n2, c2, rfl, ho, hbb⟩
    rw [List.nil_append] at ho
    obtain rfl : n2 = 4 := ho.len.symm
    have HO2 := Lib.hid ho
    have HB2 := Lib.hid hbb
    have hs2 := hbb.size
    clear ho hbb
    have RR := Lib.hid (rows2 HO2.out.rd HO2.out.cap (HR.out.below HB2.out) hc 22)
    have HO3 := Lib.hid (HO2.out.alloc (.cells #[.slice A2 4 c2, .slice A n c] 22))
    have HB3 := Lib.hid (HB2.out.alloc hs2 (.cells #[.slice A2 4 c2, .slice A n c] 22))
    have HT3 := Lib.hid (HT.out.below HB3.out)
    have hs3 := HB3.out.size
    have HPC := Lib.hid (parts_any _ _ 2 _ _ RR.out HT3.out)
    generalize parts 0 [le4 n, xs] = S at HF HP HPC
    have HRR := Lib.hid (fun W (h : Below w.heap.size w W) => HR.out.below h)
    go_wp2_with (first | (go_at_call 54; refine HPC.out.mono ?_; rintro e w5 ⟨rfl, rfl⟩) | (go_at_call 53; refine (four_any w w.heap.size _ _ _ (le4 n) _ _ HO3.out hs3 HB3.out HP.out (by omega)).mono ?_; rintro e w6 ⟨A6, n6, c6, rfl, ho, hbb⟩; have hl6 : 8 = n6 := ho.len; subst hl6; have HO6 := Lib.hid ho; have HB6 := Lib.hid hbb; have hs6 := hbb.size; clear ho hbb) | (at_builtin; refine app (w0 := w) (base := w.heap.size) rfl (.tmp 18) (.tmp 19) rfl rfl rfl (HO6.out) (HRR.out _ HB6.out) (HB6.out) ?s7 ?l7 ?_; (case s7 => exact hs6); (case l7 => omega); intro A7 n7 c7 w7 ho hb; have HO7 := Lib.hid ho; have B7 := Lib.hid hb; clear ho hb))
    refine bodyPost_ret (results_tmp2 rfl _ _ _) rfl ?_
    exact ⟨A7, n7, c7, rfl, by rw [if_pos rfl, HF.out]; exact HO7.out, B7.out⟩
  · have hd : decide (n ≤ 1048576) = false := decide_eq_false hb
    rw [hd]
    go_enter Tryd.func37, Tryd.ntmps37
    go_wp2
    refine bodyPost_ret (results_tmp2 rfl _ _ _) rfl ?_
    exact ⟨none, 0, 0, rfl, OwB.nil _ _, Below.refl _ _⟩
set_option maxHeartbeats 1000000 in
theorem refencode_any (A : Option Addr) (n c : Nat) (xs : List Int) (w : World) (hr : RdB w A n xs) (hc : n ≤ c) :
    Calls Tryd.prog 40 #[.slice A n c] w (RetE w (decide (n ≤ 1048576)) (fenc xs)) := by
  have HR := Lib.hid hr
  have hlen := hr.len
  have hmax := hr.max
  clear hr
  by_cases hb : n ≤ 1048576
  · have hd : decide (n ≤ 1048576) = true := decide_eq_true hb
    rw [hd]
    have hU := U32_len hb
    have HF : Hid (fenc xs = ([] ++ le4 n) ++ le4 (add 0 (([] ++ le4 n) ++ xs)) ++ xs) := Lib.hid (by rw [List.nil_append, ← parts2]; unfold fenc; rw [hlen])
    have HP := Lib.hid (U32_add 0 (([] ++ le4 n) ++ xs))
    have HRR := Lib.hid (fun W (h : Below w.heap.size w W) => HR.out.below h)
    have H4 := Lib.hid (reffour_any n w hU)
    clear hU hd hlen
    go_enter Tryd.func40, Tryd.ntmps40
    go_wp2_with fail
    refine H4.out.mono ?_
    rintro e w2 ⟨A2, c2, rfl, h4c, hr2, hb2⟩
    have HR2 := Lib.hid hr2
    have HB2 := Lib.hid hb2
    have hs2 := hb2.size
    clear hr2 hb2
    have HBX := Lib.hid (Below.refl w2.heap.size w2)
    have HRX := Lib.hid (fun W (h : Below w2.heap.size w2 W) => HRR.out _ (HB2.out.trans (h.mono hs2)))
    go_wp2_with (first | (at_builtin; refine app (w0 := w2) (base := w2.heap.size) rfl (.tmp 13) (.tmp 14) rfl rfl rfl (OwB.lit0 _ _ (Nat.le_refl _)) (HR2.out.below (below_alloc (Below.refl _ _) _)) (HBX.out.alloc (Nat.le_refl _) _) ?s5 ?l5 ?_; (case s5 => simp); (case l5 => omega); intro A5 n5 c5 w5 ho hb; have HO5 := Lib.hid ho; have B5 := Lib.hid hb; have hl5 : 4 = n5 := ho.len; subst hl5; have hs5 := hb.size; clear ho hb) | (at_builtin; refine app (w0 := w2) (base := w2.heap.size) rfl (.tmp 15) (.tmp 16) rfl rfl rfl (HO5.out) (HRX.out _ B5.out) (B5.out) ?s6 ?l6 ?_; (case s6 => exact hs5); (case l6 => omega); intro A6 n6 c6 w6 ho hb; have HO6 := Lib.hid ho; have B6 := Lib.hid hb; have hs6 := hb.size; clear ho hb) | (go_at_call 58; refine (refsum_any _ _ _ _ _ HO6.out.rd).mono ?_; rintro e w7 ⟨rfl, rfl⟩; rw [add_ref]; generalize add 0 (([] ++ le4 n) ++ xs) = S at HF HP ⊢) | (go_at_call 57; refine (reffour_any S _ HP.out).mono ?_; rintro e w8 ⟨A8, c8, rfl, h4c8, hr8, hb8⟩; have HR8 := Lib.hid hr8; have BX8 := Lib.hid (B6.out.trans (hb8.mono hs6)); have HR28 := Lib.hid (HR2.out.below BX8.out); have B8 := Lib.hid (HB2.out.trans (BX8.out.mono hs2)); have hs8 := B8.out.size; have HBY := Lib.hid (Below.refl w8.heap.size w8); clear hr8 hb8) | (at_builtin; refine app (w0 := w8) (base := w8.heap.size) rfl (.tmp 20) (.tmp 21) rfl rfl rfl (OwB.lit0 _ _ (Nat.le_refl _)) (HR28.out.below (below_alloc (Below.refl _ _) _)) (HBY.out.alloc (Nat.le_refl _) _) ?sa ?la ?_; (case sa => simp); (case la => omega); intro Aa na ca wa ho hb; have HOa := Lib.hid ho; have Ba := Lib.hid hb; have hla : 4 = na := ho.len; subst hla; have hsa := hb.size; clear ho hb) | (at_builtin; refine app (w0 := w8) (base := w8.heap.size) rfl (.tmp 22) (.tmp 23) rfl rfl rfl (HOa.out) (HR8.out.below Ba.out) (Ba.out) ?sb ?lb ?_; (case sb => exact hsa); (case lb => omega); intro Ab nb cb wb ho hb; have HOb := Lib.hid ho; have Bb := Lib.hid hb; have hlb : 8 = nb := ho.len; subst hlb; have hsb := hb.size; clear ho hb) | (at_builtin; refine app (w0 := w8) (base := w8.heap.size) rfl (.tmp 24) (.tmp 25) rfl rfl rfl (HOb.out) (HRR.out _ (B8.out.trans (Bb.out.mono hs8))) (Bb.out) ?sc ?lc ?_; (case sc => exact hsb); (case lc => omega); intro Ac nc cc wc ho hb; have HOc := Lib.hid ho; have Bc := Lib.hid hb; clear ho hb))
    refine bodyPost_ret (results_tmp2 rfl _ _ _) rfl ?_
    exact ⟨Ac, nc, cc, rfl, by rw [if_pos rfl, HF.out]; exact HOc.out.less hs8, B8.out.trans (Bc.out.mono hs8)⟩
  · have hd : decide (n ≤ 1048576) = false := decide_eq_false hb
    rw [hd]
    go_enter Tryd.func40, Tryd.ntmps40
    go_wp2
    refine bodyPost_ret (results_tmp2 rfl _ _ _) rfl ?_
    exact ⟨none, 0, 0, rfl, OwB.nil _ _, Below.refl _ _⟩
end Go.Proofs.YtfinaikgikifcaaDoor.framem
/- Frames of payloads: plain. -/
namespace Go.Proofs.YtfinaikgikifcaaDoor.framel
open Go.RowKit Go.Proofs.YtfinaikgikifcaaDoorW.PrintWords Go.Proofs.YtfinaikgikifcaaDoor.base Go.Proofs.YtfinaikgikifcaaDoor.mem Go.Proofs.YtfinaikgikifcaaDoor.crcp Go.Proofs.YtfinaikgikifcaaDoor.crcw Go.Proofs.YtfinaikgikifcaaDoor.samew Go.Proofs.YtfinaikgikifcaaDoor.framep Go.Proofs.YtfinaikgikifcaaDoor.framew Go.Proofs.YtfinaikgikifcaaDoor.frameit Go.Proofs.YtfinaikgikifcaaDoor.framem

theorem le4_len (S : Int) : (le4 S).length = 4 := rfl
theorem fenc_len (xs : List Int) : (fenc xs).length = 8 + xs.length := by simp [fenc, le4_len]; omega
theorem By_fenc {xs : List Int} (hx : By xs) (h : xs.length ≤ 1048576) : By (fenc xs) := (((By_le4 (U32_len h)).append (By_le4 (U32_parts 0 ⟨by decide, by decide⟩ _))).append hx)
theorem firstN_fenc (xs more : List Int) (h : xs.length ≤ 1048576) : firstN (fenc xs ++ more) = 8 + xs.length := by
  have e1 : w4 (fenc xs ++ more) = xs.length := by
    unfold fenc
    rw [List.append_assoc, List.append_assoc]
    exact w4_le4 (U32_len h) _
  have e2 : (fenc xs ++ more).take 4 = le4 xs.length := rfl
  have e3 : (fenc xs ++ more).drop 8 = xs ++ more := rfl
  have e4 : (fenc xs ++ more).drop 4 = le4 (parts 0 [le4 xs.length, xs]) ++ (xs ++ more) := rfl
  unfold firstN
  rw [e1, e2, e3, e4, w4_le4 (U32_parts 0 ⟨by decide, by decide⟩ _), Int.toNat_natCast, List.take_left, List.length_append, fenc_len, if_neg (by omega), if_neg]
  intro hh
  rcases hh with hh | hh | hh
  · omega
  · omega
  · exact hh rfl
theorem fitems_fenc (f p : Nat) (xs more : List Int) (h : xs.length ≤ 1048576) : fitems (f + 1) p (fenc xs ++ more) = (p, xs.length) :: fitems f (p + (8 + xs.length)) more := by
  have e := firstN_fenc xs more h
  rw [fitems_next _ _ _ (by omega), e, show 8 + xs.length - 8 = xs.length from by omega, List.drop_left' (fenc_len xs)]
theorem firstN_nil : firstN [] = 0 := rfl
theorem flist_one (xs : List Int) (h : xs.length ≤ 1048576) : flist (fenc xs) = [(0, xs.length)] := by
  unfold flist
  rw [fenc_len, show 8 + xs.length = (7 + xs.length) + 1 from by omega]
  have := fitems_fenc (7 + xs.length) 0 xs [] h
  rw [List.append_nil] at this
  rw [this, fitems_end _ _ _ firstN_nil]
end Go.Proofs.YtfinaikgikifcaaDoor.framel
/- Slices of one's own, each in its own block. -/
namespace Go.Proofs.YtfinaikgikifcaaDoor.framea
open Go.RowKit Go.Shelf Go.Proofs.YtfinaikgikifcaaDoorW.PrintWords Go.Proofs.YtfinaikgikifcaaDoor.base Go.Proofs.YtfinaikgikifcaaDoor.mem Go.Proofs.YtfinaikgikifcaaDoor.crcp Go.Proofs.YtfinaikgikifcaaDoor.crcw Go.Proofs.YtfinaikgikifcaaDoor.samew Go.Proofs.YtfinaikgikifcaaDoor.keep Go.Proofs.YtfinaikgikifcaaDoor.framep Go.Proofs.YtfinaikgikifcaaDoor.framew Go.Proofs.YtfinaikgikifcaaDoor.frameit Go.Proofs.YtfinaikgikifcaaDoor.framem Go.Proofs.YtfinaikgikifcaaDoor.framel Go.Proofs.YtfinaikgikifcaaDoor.over
attribute [local go_sem] Oper.semAt_some

/-! ### plain -/
def payK (xs : List Int) (k : Nat × Nat) : List Int := (xs.drop (k.1 + 8)).take k.2
/-- the payloads of the good frames -/
def pays (xs : List Int) : List (List Int) := (flist xs).map (payK xs)
theorem pays_of {xs : List Int} {ys : List It} (h : ys.map It.key = flist xs) : ys.map (pay xs) = pays xs := by
  unfold pays
  rw [← h, List.map_map]
  rfl
theorem fitems_len : ∀ (f p : Nat) (xs : List Int), (fitems f p xs).length * 8 ≤ xs.length := by
  intro f
  induction f with
  | zero => intro p xs; simp [fitems]
  | succ f ih =>
    intro p xs
    by_cases h : firstN xs = 0
    · rw [fitems_end _ _ _ h]; simp
    · rw [fitems_next _ _ _ h, List.length_cons]
      have h1 := ih (p + firstN xs) (xs.drop (firstN xs))
      have h2 := firstN_le xs
      have h3 := firstN_ge xs h
      rw [List.length_drop] at h1
      omega
theorem flist_len (xs : List Int) : (flist xs).length * 8 ≤ xs.length := fitems_len _ _ _
theorem V.lt {xs : List Int} {B : Nat} {pre : List It} {x : It} {W : World} (h : V xs B pre x W) : pre.length < (flist xs).length := by
  have h1 := h.1.length_le
  simp at h1
  omega
/-! ### slices of the call's own, each in its own block -/
structure Rws (W : World) (base : Nat) (cells : List Value) (xss : List (List Int)) : Prop where
  len : cells.length = xss.length
  at_ : ∀ j, j < xss.length → ∃ a m c, cells[j]? = some (.slice a m c) ∧ OwB W base a m c (xss.getD j [])
  apart : ∀ (i j g : Nat) (a : Option Addr) (m c : Nat) (a' : Option Addr) (m' c' : Nat), cells[i]? = some (Value.slice a m c) → cells[j]? = some (Value.slice a' m' c') → (Value.slice a m c).ownBlock = some g → (Value.slice a' m' c').ownBlock = some g → i = j
theorem Rws.nil (W : World) (base : Nat) : Rws W base [] [] := ⟨rfl, fun j hj => absurd hj (by simp), fun i j g a m c a' m' c' h => by simp at h⟩
theorem Rws.map {W W' : World} {base : Nat} {cells : List Value} {xss : List (List Int)} (h : Rws W base cells xss) (hw : ∀ a m c ys, OwB W base a m c ys → OwB W' base a m c ys) : Rws W' base cells xss :=
  ⟨h.len, fun j hj => by obtain ⟨a, m, c, h1, h2⟩ := h.at_ j hj; exact ⟨a, m, c, h1, hw _ _ _ _ h2⟩, h.apart⟩
theorem Rws.snoc {W0 W : World} {base B : Nat} {cells : List Value} {xss : List (List Int)} (h0 : Rws W0 base cells xss) (h : Rws W base cells xss) (hB : W0.heap.size ≤ B) (hb : base ≤ B) {a : Option Addr} {m c : Nat} {ys : List Int} (hy : OwB W B a m c ys) :
    Rws W base (cells ++ [.slice a m c]) (xss ++ [ys]) := by
  have hold : ∀ (i g : Nat) (a' : Option Addr) (m' c' : Nat), cells[i]? = some (Value.slice a' m' c') → (Value.slice a' m' c').ownBlock = some g → g < B := by
    intro i g a' m' c' hi hg
    have hlt : i < xss.length := by rw [← h0.len]; exact (List.getElem?_eq_some_iff.1 hi).1
    obtain ⟨a2, m2, c2, h1, h2⟩ := h0.at_ i hlt
    rw [hi] at h1
    injection h1 with h1
    injection h1 with e1 e2 e3
    subst e1 e2 e3
    exact Nat.lt_of_lt_of_le (OwB.blk h2 g hg).2 hB
  have hnew : ∀ g, (Value.slice a m c).ownBlock = some g → B ≤ g := fun g hg => (OwB.blk hy g hg).1
  refine ⟨by simp [h.len], fun j hj => ?_, ?_⟩
  · rcases Nat.lt_or_ge j xss.length with hlt | hge
    · obtain ⟨a', m', c', h1, h2⟩ := h.at_ j hlt
      refine ⟨a', m', c', by rw [List.getElem?_append_left (by rw [h.len]; exact hlt)]; exact h1, ?_⟩
      rw [List.getD_eq_getElem?_getD, List.getElem?_append_left hlt, ← List.getD_eq_getElem?_getD]; exact h2
    · obtain rfl : j = xss.length := by simp at hj; omega
      refine ⟨a, m, c, by rw [← h.len]; simp, ?_⟩
      simpa [List.getD_eq_getElem?_getD] using hy.less hb
  · intro i j g a1 m1 c1 a2 m2 c2 hi hj gi gj
    rcases Nat.lt_or_ge i cells.length with hil | hil <;> rcases Nat.lt_or_ge j cells.length with hjl | hjl
    · rw [List.getElem?_append_left hil] at hi
      rw [List.getElem?_append_left hjl] at hj
      exact h.apart i j g _ _ _ _ _ _ hi hj gi gj
    · rw [List.getElem?_append_left hil] at hi
      have h1 := hold i g _ _ _ hi gi
      obtain rfl : j = cells.length := by
        have := (List.getElem?_eq_some_iff.1 hj).1
        simp at this
        omega
      simp at hj
      obtain ⟨rfl, rfl, rfl⟩ := hj
      have := hnew g gj
      omega
    · rw [List.getElem?_append_left hjl] at hj
      have h1 := hold j g _ _ _ hj gj
      obtain rfl : i = cells.length := by
        have := (List.getElem?_eq_some_iff.1 hi).1
        simp at this
        omega
      simp at hi
      obtain ⟨rfl, rfl, rfl⟩ := hi
      have := hnew g gi
      omega
    · have h1 := (List.getElem?_eq_some_iff.1 hi).1
      have h2 := (List.getElem?_eq_some_iff.1 hj).1
      simp at h1 h2
      omega
theorem Rws.of {W : World} {base : Nat} {cells : List Value} {xss : List (List Int)} (h : Rws W base cells xss) : RowsOf W cells xss :=
  ⟨h.len, fun j hj => by obtain ⟨a, m, c, h1, h2⟩ := h.at_ j hj; exact ⟨a, m, c, h1, h2.cap, h2.rd⟩⟩
/-- what is no block of bytes may turn -/
theorem OwB.keptT {w w' : World} {base n c : Nat} {A : Option Addr} {ys : List Int} (h : OwB w base A n c ys) {row : Option Nat} (hg : w.grownBy w' row) (hr : ∀ r, row = some r → ∀ cur, w.heap[r]? ≠ some (.cells cur 5 (0, 0))) : OwB w' base A n c ys := by
  refine ⟨h.1.kept hg ?_, h.2⟩
  rcases h.1.2 with ⟨hv, _⟩ | ⟨g, cap, cur, hv, _, hb, _, _, _⟩
  · injection hv with h1 _ _
    subst h1
    exact .inl rfl
  · injection hv with h1 _ _
    subst h1
    exact .inr fun e => hr g e.symm cur hb
theorem OwV.row {w : World} {base n c : Nat} {A : Option Addr} {cells : List Value} (h : OwV w base A n c cells) : ∀ r, (Value.slice A n c).ownBlock = some r → ∀ cur, w.heap[r]? ≠ some (.cells cur 5 (0, 0)) := by
  intro r hr cur he
  rcases h.2 with ⟨hv, _⟩ | ⟨g, cap, cur', hv, _, hb, _, _, _⟩
  · rw [hv] at hr; cases hr
  · rw [hv] at hr
    injection hr with hr
    have hr : g = r := hr
    subst hr
    rw [hb] at he
    injection he with he
    injection he with _ he _
    revert he
    decide
theorem Boxed.row {W : World} {B : Nat} {t : TypeId} {v : Value} (h : Boxed W B t v) (ht : t ≠ 5) : ∀ r, some B = some r → ∀ cur, W.heap[r]? ≠ some (.cells cur 5 (0, 0)) := by
  rintro r ⟨⟩ cur he
  rw [show W.heap[B]? = _ from h] at he
  injection he with he
  injection he with _ he _
  exact ht he
theorem OwB.ck {w w' : World} {base n c : Nat} {A : Option Addr} {ys : List Int} (h : OwB w base A n c ys) (hk : CK w w') : OwB w' base A n c ys := by
  refine ⟨⟨h.1.1, ?_⟩, h.2⟩
  rcases h.1.2 with hv | ⟨g, cap, cur, hv, h1, hb, h2⟩
  · exact .inl hv
  · exact .inr ⟨g, cap, cur, hv, h1, hk.2 _ _ hb rfl, h2⟩
theorem OwV.ck {w w' : World} {base n c : Nat} {A : Option Addr} {cells : List Value} (h : OwV w base A n c cells) (hk : CK w w') : OwV w' base A n c cells := by
  refine ⟨h.1, ?_⟩
  rcases h.2 with hv | ⟨g, cap, cur, hv, h1, hb, h2⟩
  · exact .inl hv
  · exact .inr ⟨g, cap, cur, hv, h1, hk.2 _ _ hb rfl, h2⟩
theorem OwV.kept {w w' : World} {base n c : Nat} {A : Option Addr} {cells : List Value} (h : OwV w base A n c cells) {row : Option Nat} (hg : w.grownBy w' row) (hr : ∀ r, row = some r → ∃ o : Obj, w.heap[r]? = some o ∧ o.isCells = false) : OwV w' base A n c cells := by
  refine World.ownsRow.kept h hg ?_
  rcases h.2 with ⟨hv, _⟩ | ⟨g, cap, cur, hv, _, hb, _, _, _⟩
  · rw [hv]; exact .inl rfl
  · rw [hv]
    refine .inr fun e => ?_
    obtain ⟨o, ho, hc⟩ := hr g e.symm
    rw [hb] at ho
    injection ho with ho
    subst ho
    cases hc
theorem Boxed.ck {W W' : World} {B : Nat} {t : TypeId} {v : Value} (h : Boxed W B t v) (hk : CK W W') : Boxed W' B t v := hk.2 _ _ h rfl
theorem KT.of {n0 lo hi : Nat} {W W' : World} (hb : Below n0 W W') (hg : 0 < n0) (hband : Band lo hi W W') : KT lo hi W W' :=
  ⟨hband, fun t i hi => by rw [← t i hi]; exact World.cell?_of_block (hb.block _ hg), hb.size⟩
/-- a slice of slices in a box -/
def BoxV (base b : Nat) (cells : List Value) (W : World) : Prop := ∃ A n c, Boxed W b 28 (.slice A n c) ∧ OwV W base A n c cells
end Go.Proofs.YtfinaikgikifcaaDoor.framea
/- What the reference's First and All compute. -/
namespace Go.Proofs.YtfinaikgikifcaaDoor.framer
open Go.RowKit Go.Proofs.YtfinaikgikifcaaDoorW.PrintWords Go.Proofs.YtfinaikgikifcaaDoor.base Go.Proofs.YtfinaikgikifcaaDoor.mem Go.Proofs.YtfinaikgikifcaaDoor.crcp Go.Proofs.YtfinaikgikifcaaDoor.crcw Go.Proofs.YtfinaikgikifcaaDoor.samew Go.Proofs.YtfinaikgikifcaaDoor.keep Go.Proofs.YtfinaikgikifcaaDoor.framep Go.Proofs.YtfinaikgikifcaaDoor.framew Go.Proofs.YtfinaikgikifcaaDoor.frameit Go.Proofs.YtfinaikgikifcaaDoor.framem Go.Proofs.YtfinaikgikifcaaDoor.framel Go.Proofs.YtfinaikgikifcaaDoor.framea

theorem le4_w4 {xs : List Int} (h : By xs) (h4 : 4 ≤ xs.length) : le4 (w4 xs) = xs.take 4 := by
  obtain ⟨a, b, c, d, r, rfl⟩ : ∃ a b c d r, xs = a :: b :: c :: d :: r := by
    match xs, h4 with
    | a :: b :: c :: d :: r, _ => exact ⟨a, b, c, d, r, rfl⟩
  have ha := h.mem a (by simp)
  have hb := h.mem b (by simp)
  have hc := h.mem c (by simp)
  have hd := h.mem d (by simp)
  simp only [le4, w4, List.getD_cons_zero, List.getD_cons_succ, List.take_succ_cons, List.take_zero]
  refine List.cons_eq_cons.2 ⟨by omega, List.cons_eq_cons.2 ⟨by omega, List.cons_eq_cons.2 ⟨by omega, List.cons_eq_cons.2 ⟨by omega, rfl⟩⟩⟩⟩
theorem first_iff {xs pl : List Int} (h : By xs) (h8 : 8 ≤ xs.length) (hp : (pl.length : Int) = w4 xs) : (fenc pl).take 8 = xs.take 8 ↔ parts 0 [xs.take 4, pl] = w4 (xs.drop 4) := by
  have e1 : (fenc pl).take 8 = le4 (w4 xs) ++ le4 (parts 0 [le4 (w4 xs), pl]) := by
    unfold fenc
    rw [hp]
    rfl
  have e2 : xs.take 8 = xs.take 4 ++ (xs.drop 4).take 4 := by rw [show (8 : Nat) = 4 + 4 from rfl, List.take_add]
  rw [e1, e2, le4_w4 h (by omega), ← le4_w4 (h.drop 4) (by rw [List.length_drop]; omega)]
  constructor
  · intro e
    have e3 := List.append_cancel_left e
    have e4 := congrArg (fun l => w4 (l ++ [])) e3
    rwa [w4_le4 (U32_parts 0 ⟨by decide, by decide⟩ _), w4_le4 (w4_range (h.drop 4))] at e4
  · intro e
    rw [e]
/-- the first loop's number: of four bytes the last ones, the last first -/
def hz (xs : List Int) : Nat → Int
  | 0 => 0
  | j + 1 => hz xs j * 256 + xs.getD (3 - j) 0
theorem hz_bound {xs : List Int} (h : By xs) (j : Nat) (hj : j ≤ 4) : 0 ≤ hz xs j ∧ hz xs j ≤ 4294967295 := by
  have h0 := By.getD h 0
  have h1 := By.getD h 1
  have h2 := By.getD h 2
  have h3 := By.getD h 3
  match j, hj with
  | 0, _ => simp [hz]
  | 1, _ => simp only [hz, Nat.reduceSub, Nat.sub_self, Nat.sub_zero]; omega
  | 2, _ => simp only [hz, Nat.reduceSub, Nat.sub_self, Nat.sub_zero]; omega
  | 3, _ => simp only [hz, Nat.reduceSub, Nat.sub_self, Nat.sub_zero]; omega
  | 4, _ => simp only [hz, Nat.reduceSub, Nat.sub_self, Nat.sub_zero]; omega
theorem hz_all (xs : List Int) : hz xs 4 = w4 xs := by simp only [hz, w4, Nat.reduceSub, Nat.sub_self, Nat.sub_zero]; omega
def RetFirst (w : World) (xs : List Int) (e : Ending) (w' : World) : Prop := ∃ A n c, e = .returned (.tuple #[.slice A n c, .int .i64 (firstN xs : Nat)]) ∧ OwB w' w.heap.size A n c ((xs.drop 8).take (firstN xs - 8)) ∧ Below w.heap.size w w'
set_option maxHeartbeats 1000000 in
theorem reffirst_any (A : Option Addr) (n c : Nat) (xs : List Int) (w : World) (hr : RdB w A n xs) (hc : n ≤ c) :
    Calls Tryd.prog 66 #[.slice A n c] w (RetFirst w xs) := by
  have HR := Lib.hid hr
  have hlen := hr.len
  have hmax := hr.max
  clear hr
  by_cases h8 : n < 8
  · have HF : Hid (firstN xs = 0) := Lib.hid (by unfold firstN; rw [if_pos (by omega)])
    go_enter Tryd.func66, Tryd.ntmps66
    go_wp2
    refine bodyPost_ret (results_tmp2 rfl _ _ _) rfl ?_
    refine ⟨none, 0, 0, by rw [HF.out]; rfl, by rw [HF.out]; exact OwB.nil _ _, Below.refl _ _⟩
  go_enter Tryd.func66, Tryd.ntmps66
  go_wp2
  go_loop [4, 5] (fun r i => ∃ v : Int, r = .int .i64 v ∧ 0 ≤ v ∧ v ≤ 4294967295 ∧ ((∃ k : Nat, k ≤ 3 ∧ i = .int .i64 k ∧ Aside0 (v = hz xs (3 - k))) ∨ (i = .int .i64 (-1) ∧ Aside0 (v = w4 xs)))) (fun _ i => (intOf i + 1).toNat)
  case atStart => exact ⟨0, rfl, by omega, by omega, .inl ⟨3, by omega, rfl, ⟨rfl⟩⟩⟩
  case round =>
    obtain ⟨v, rfl, hv0, hv1, ⟨k, hk, rfl, HV⟩ | ⟨rfl, HV⟩⟩ := hrel
    · obtain ⟨ad, rfl, hcell⟩ := HR.out.at_ k (by omega)
      have hbd := By.getD HR.out.2 k
      have HB := Lib.hid (hz_bound HR.out.2 (3 - k + 1) (by omega))
      have HS : Hid (hz xs (3 - k + 1) = hz xs (3 - k) * 256 + xs.getD k 0) := Lib.hid (by show _ * 256 + xs.getD (3 - (3 - k)) 0 = _; rw [show 3 - (3 - k) = k from by omega])
      generalize xs.getD k 0 = b at hcell hbd HS
      have hkn : k < n := by omega
      have hvb : 0 ≤ v * 256 + b ∧ v * 256 + b ≤ 4294967295 := by have h1 := HB.out; rw [HS.out, ← HV.out] at h1; exact h1
      go_wp2
      go_round
      case rel =>
        refine ⟨v * 256 + b, rfl, hvb.1, hvb.2, ?_⟩
        rcases Nat.eq_zero_or_pos k with h0 | h0
        · subst h0
          exact .inr ⟨by go_num, ⟨by rw [← hz_all, show (4 : Nat) = 3 - 0 + 1 from rfl, HS.out, ← HV.out]⟩⟩
        · exact .inl ⟨k - 1, by omega, by go_num, ⟨by rw [show 3 - (k - 1) = 3 - k + 1 from by omega, HS.out, ← HV.out]⟩⟩
      case measure => first | (simp [intOf]; done) | (simp [intOf]; omega)
    · have hV := HV.out
      obtain ⟨u, rfl⟩ := Int.eq_ofNat_of_zero_le hv0
      have HFdef : Hid (firstN xs = if 1048576 < u ∨ n - 8 < u ∨ parts 0 [xs.take 4, (xs.drop 8).take u] ≠ w4 (xs.drop 4) then 0 else 8 + u) := Lib.hid (by unfold firstN; rw [if_neg (by omega), ← hV, hlen]; rfl)
      have HV := Lib.hid hV
      clear hV hlen
      by_cases hbig : 1048576 < u
      · have HF : Hid (firstN xs = 0) := Lib.hid (by rw [HFdef.out, if_pos (.inl hbig)])
        have hb : decide ((1048576 : Int) < (u : Int)) = true := decide_eq_true (by omega)
        go_wp2
        refine bodyPost_ret (results_tmp2 rfl _ _ _) rfl ?_
        refine ⟨none, 0, 0, by rw [HF.out]; rfl, by rw [HF.out]; exact OwB.nil _ _, Below.refl _ _⟩
      by_cases hlong : n - 8 < u
      · have HF : Hid (firstN xs = 0) := Lib.hid (by rw [HFdef.out, if_pos (.inr (.inl hlong))])
        have hb : decide ((1048576 : Int) < (u : Int)) = false := decide_eq_false (by omega)
        have hb2 : decide (((n : Int) - 8) < (u : Int)) = true := decide_eq_true (by omega)
        go_wp2
        refine bodyPost_ret (results_tmp2 rfl _ _ _) rfl ?_
        refine ⟨none, 0, 0, by rw [HF.out]; rfl, by rw [HF.out]; exact OwB.nil _ _, Below.refl _ _⟩
      have hb : decide ((1048576 : Int) < (u : Int)) = false := decide_eq_false (by omega)
      have hb2 : decide (((n : Int) - 8) < (u : Int)) = false := decide_eq_false (by omega)
      obtain ⟨A8, n8, c8, hcut8, a1, a2, a3, hrd8⟩ := cutLH A n c 8 (8 + u) (by omega) (by omega) hc
      have e8 : ((8 + u : Nat) : Int) = 8 + (u : Int) := by omega
      have hcut8 : ∀ W : World, (Instr.slice 22 (.slice A n c) (some (.int .i64 8)) (some (.int .i64 (8 + (u : Int)))) none).run Tryd.prog W = .ok (.slice A8 n8 c8) W := fun W => by have := hcut8 W; rw [e8] at this; exact this
      obtain rfl : n8 = u := by omega
      have HRD := Lib.hid (fun W (h : RdB W A n xs) => by
        have h1 := hrd8 W xs h
        rw [show (xs.take (8 + n8)).drop 8 = (xs.drop 8).take n8 from by rw [List.drop_take]; congr 1; omega] at h1
        exact h1)
      have B0 := Lib.hid (Below.refl w.heap.size w)
      have HP : Hid (((xs.drop 8).take n8).length = n8) := Lib.hid (by rw [List.length_take, List.length_drop, HR.out.len]; omega)
      clear e8 hrd8
      go_wp2_with (first | (at_builtin; refine app (w0 := w) (base := w.heap.size) rfl (.tmp 34) (.tmp 38) rfl rfl rfl (OwB.lit0 _ _ (Nat.le_refl _)) (HRD.out _ (HR.out.below (below_alloc (Below.refl _ _) _))) (B0.out.alloc (Nat.le_refl _) _) ?s5 ?l5 ?_; (case s5 => simp); (case l5 => omega); intro A5 n5 c5 w5 ho hb; have HO5 := Lib.hid ho; have B5 := Lib.hid hb; have hl5 : _ = n5 := ho.len; rw [List.nil_append, HP.out] at hl5; subst hl5; have hs5 := hb.size; clear ho hb))
      rw [List.nil_append] at HO5
      generalize hpl : (xs.drop 8).take n8 = pl at HO5 HP
      have hlp := HP.out
      have hdu : decide (n8 ≤ 1048576) = true := decide_eq_true (by omega)
      have HEn := Lib.hid (refencode_any _ _ _ pl _ HO5.out.rd HO5.out.cap)
      rw [hdu] at HEn
      have HI := Lib.hid (first_iff (pl := pl) HR.out.2 (by rw [HR.out.len]; omega) (by rw [hlp]; exact HV.out))
      have HL := Lib.hid (fenc_len pl)
      rw [hlp] at HL
      have HFd : Hid (firstN xs = if (fenc pl).take 8 = xs.take 8 then 8 + n8 else 0) := Lib.hid (by
        rw [HFdef.out, hpl]
        by_cases he : (fenc pl).take 8 = xs.take 8
        · rw [if_pos he, if_neg]
          rintro (h | h | h)
          · exact hbig h
          · exact hlong h
          · exact h (HI.out.1 he)
        · rw [if_neg he, if_pos (.inr (.inr fun h => he (HI.out.2 h)))])
      have HPL := Lib.hid hpl
      clear hpl hlp hdu HFdef HI HV HP HRD hcut8 a1 a2
      generalize fenc pl = E at HEn HL HFd
      refine HEn.out.mono ?_
      rintro e w6 ⟨A6, n6, c6, rfl, ho, hb6⟩
      rw [if_pos rfl] at ho
      have hn6 := ho.len
      rw [HL.out] at hn6
      subst hn6
      have HO6 := Lib.hid ho.rd
      have HO56 := Lib.hid (HO5.out.below hb6)
      have B6 := Lib.hid (B5.out.trans (hb6.mono hs5))
      have HR6 := Lib.hid (HR.out.below B6.out)
      clear ho hb6
      go_wp2
      go_loopw [9] (fun i wr => ∃ j : Nat, j ≤ 8 ∧ i = .int .i64 j ∧ Aside0 (E.take j = xs.take j) ∧ Drawn0 w6 wr) (fun i _ => 8 - (intOf i).toNat)
      case atStart => exact ⟨0, by omega, rfl, ⟨rfl⟩, Drawn0.refl _⟩
      case round =>
        obtain ⟨j, hj, rfl, HE, HD⟩ := hrel
        by_cases hlt : j < 8
        · obtain ⟨ad, rfl, hcx⟩ := (drawn_rd HD HR6.out).at_ j (by omega)
          obtain ⟨ad', rfl, hcy⟩ := (drawn_rd HD HO6.out).at_ j (by omega)
          have hjn : j < n := by omega
          have hjm : j < 8 + n8 := by omega
          by_cases hne : E.getD j 0 = xs.getD j 0
          · have h2 : E.take (j + 1) = xs.take (j + 1) := by rw [take_snoc E j (by rw [HL.out]; omega), take_snoc xs j (by rw [HR.out.len]; omega), HE.out, hne]
            rw [hne] at hcy
            generalize xs.getD j 0 = x at hcx hcy
            have H2 := Aside0.mk h2
            clear h2 hne
            go_wp2
            go_quiet (fail)
            go_wp2
            go_roundw
            case rel => exact ⟨j + 1, by omega, by go_num, H2, HD.step _⟩
            case measure => simp [intOf]; omega
          · have HF : Hid (firstN xs = 0) := Lib.hid (by
              rw [HFd.out, if_neg]
              intro h
              have h1 := congrArg (fun l => l.getD j 0) h
              simp only [List.getD_eq_getElem?_getD, List.getElem?_take, if_pos hlt] at h1 hne
              exact hne h1)
            have hb : (E.getD j 0 != xs.getD j 0) = true := by simpa using hne
            generalize xs.getD j 0 = x at hcx hb
            generalize E.getD j 0 = y at hcy hb
            clear hne
            go_wp2
            go_quiet (fail)
            go_wp2
            refine bodyPost_ret (results_tmp2 rfl _ _ _) rfl ?_
            refine ⟨none, 0, 0, by rw [HF.out]; rfl, by rw [HF.out]; exact OwB.nil _ _, ?_⟩
            obtain ⟨q, rfl⟩ := HD
            exact pw_below_drewN (pw_below_drewN B6.out _) _
        · obtain rfl : j = 8 := by omega
          have HF : Hid (firstN xs = 8 + n8) := Lib.hid (by rw [HFd.out, if_pos HE.out])
          go_wp2
          refine bodyPost_ret (results_tmp2 rfl _ _ _) rfl ?_
          obtain ⟨q, rfl⟩ := HD
          refine ⟨A5, n8, c5, by rw [HF.out]; exact congrArg (fun t => Ending.returned (.tuple #[.slice A5 n8 c5, .int .i64 t])) (by omega), ?_, pw_below_drewN B6.out _⟩
          rw [HF.out, show 8 + n8 - 8 = n8 from by omega, HPL.out]
          exact HO56.out.drawn q
theorem endL_snoc (pre : List (Nat × Nat)) (x : Nat × Nat) : endL (pre ++ [x]) = x.1 + 8 + x.2 := by simp [endL]
set_option maxHeartbeats 1000000 in
theorem refall_any (A : Option Addr) (n c : Nat) (xs : List Int) (w : World) (hr : RdB w A n xs) (hc : n ≤ c) (hn : n ≤ 8796093022208) :
    Calls Tryd.prog 60 #[.slice A n c] w fun e w' => ∃ A1 n1 c1 cells, e = .returned (.tuple #[.slice A1 n1 c1, .int .i64 (endL (flist xs) : Nat)]) ∧ OwV w' w.heap.size A1 n1 c1 cells ∧ Rws w' w.heap.size cells (pays xs) ∧ Below w.heap.size w w' := by
  have HR := Lib.hid hr
  have hlen := hr.len
  have hfl := flist_len xs
  rw [hlen] at hfl
  have B0 := Lib.hid (Below.refl w.heap.size w)
  clear hr
  go_enter Tryd.func60, Tryd.ntmps60
  go_wp2
  go_loopw [4, 5] (fun r i wr => ∃ (p f : Nat) (pre : List (Nat × Nat)) (A1 : Option Addr) (n1 c1 : Nat) (cells : List Value), r = .slice A1 n1 c1 ∧ i = .int .i64 p ∧ p ≤ n ∧ n - p ≤ f ∧ pre.length = n1 ∧ Aside0 (pre ++ fitems f p (xs.drop p) = flist xs) ∧ Aside0 (p = endL pre) ∧ Aside0 (OwV wr w.heap.size A1 n1 c1 cells) ∧ Aside0 (Rws wr w.heap.size cells (pre.map (payK xs))) ∧ Aside0 (Below w.heap.size w wr)) (fun _ i _ => n - (intOf i).toNat)
  case atStart => exact ⟨0, n, [], none, 0, 0, [], rfl, rfl, by omega, by omega, rfl, ⟨by rw [← hlen]; rfl⟩, ⟨rfl⟩, ⟨OwV.nil _ _⟩, ⟨Rws.nil _ _⟩, ⟨B0.out⟩⟩
  case round =>
    obtain ⟨p, f, pre, A1, n1, c1, cells, rfl, rfl, hp, hf, hpn, HE, HP, HO, HRw, HB⟩ := hrel
    obtain ⟨A2, n2, c2, hcut, m1, m2, m3, hrd⟩ := cutL A n c p hp hc
    have HF := Lib.hid (reffirst_any A2 n2 c2 (xs.drop p) wr (hrd _ _ (HR.out.below HB.out)) m3)
    have hd := firstN_le (xs.drop p)
    have hg := firstN_ge (xs.drop p)
    rw [List.length_drop, hlen] at hd
    have hsz := HB.out.size
    clear hrd
    unfold RetFirst at HF
    by_cases h0 : firstN (xs.drop p) = 0
    · have hE := HE.out
      rw [fitems_end _ _ _ h0, List.append_nil] at hE
      have HEE := Lib.hid hE
      rw [h0] at HF
      clear hE h0 hd hg HE
      go_wp2_with fail
      refine HF.out.mono ?_
      rintro e w3 ⟨A3, n3, c3, rfl, ho, hb⟩
      have HB3 := Lib.hid (HB.out.trans (hb.mono hsz))
      have HO3 := Lib.hid (HO.out.below hb)
      have HR3 := Lib.hid (HRw.out.map fun a m c ys h => h.below hb)
      clear ho hb
      go_wp2
      refine bodyPost_ret (results_tmp2 rfl _ _ _) rfl ?_
      exact ⟨A1, n1, c1, cells, by rw [← HEE.out, ← HP.out]; rfl, HO3.out, by unfold pays; rw [← HEE.out]; exact HR3.out, HB3.out⟩
    · have hg8 := hg h0
      obtain ⟨f', rfl⟩ : ∃ f', f = f' + 1 := ⟨f - 1, by omega⟩
      have hE := HE.out
      rw [fitems_next _ _ _ h0, List.drop_drop] at hE
      have hpay : ((xs.drop p).drop 8).take (firstN (xs.drop p) - 8) = payK xs (p, firstN (xs.drop p) - 8) := by rw [List.drop_drop]; rfl
      rw [hpay] at HF
      generalize firstN (xs.drop p) = k at HF hd hg8 h0 hE
      have hlt : pre.length < (flist xs).length := by rw [← hE]; simp
      have HEE := Lib.hid hE
      have hkb : ((k : Int) == 0) = false := beq_eq_false_iff_ne.2 (by omega)
      clear hE hg hpay HE
      go_wp2_with fail
      refine HF.out.mono ?_
      rintro e w3 ⟨A3, n3, c3, rfl, ho, hb⟩
      have HB3 := Lib.hid (HB.out.trans (hb.mono hsz))
      have hs3 := HB3.out.size
      have HO3 := Lib.hid (HO.out.below hb)
      have HR3 := Lib.hid (HRw.out.snoc (HRw.out.map fun a m c ys h => h.below hb) (Nat.le_refl _) hsz ho)
      clear ho hb
      go_wp2_with (at_builtin; refine appV (w0 := w) (base := w.heap.size) rfl (.tmp 19) (.tmp 21) rfl rfl rfl HO3.out HB3.out hs3 (by omega) ?_; intro A4 n4 c4 w4 ho4 hb4 hg4; have hn4 := ho4.len; have HO4 := Lib.hid ho4; have HB4 := Lib.hid hb4; have HR4 := Lib.hid (HR3.out.map fun a m c ys h => OwB.keptT h hg4 (OwV.row HO3.out)); clear ho4 hb4 hg4)
      go_roundw
      case rel => exact ⟨p + k, f', pre ++ [(p, k - 8)], A4, n4, c4, _, rfl, by go_num, by omega, by omega, by rw [← hn4, List.length_append, List.length_append, HO3.out.len, hpn]; rfl, ⟨by rw [← HEE.out]; simp⟩, ⟨by rw [endL_snoc]; show p + k = p + 8 + (k - 8); omega⟩, ⟨HO4.out⟩, ⟨by rw [List.map_append]; exact HR4.out⟩, ⟨HB4.out⟩⟩
      case measure => simp [intOf]; omega
end Go.Proofs.YtfinaikgikifcaaDoor.framer
/- What the law's alike computes; the law's reading of slices of slices. -/
namespace Go.Proofs.YtfinaikgikifcaaDoor.framer
open Go.RowKit Go.Proofs.YtfinaikgikifcaaDoorW.PrintWords Go.Proofs.YtfinaikgikifcaaDoor.base Go.Proofs.YtfinaikgikifcaaDoor.mem Go.Proofs.YtfinaikgikifcaaDoor.crcp Go.Proofs.YtfinaikgikifcaaDoor.crcw Go.Proofs.YtfinaikgikifcaaDoor.samew Go.Proofs.YtfinaikgikifcaaDoor.keep Go.Proofs.YtfinaikgikifcaaDoor.framep Go.Proofs.YtfinaikgikifcaaDoor.framew Go.Proofs.YtfinaikgikifcaaDoor.frameit Go.Proofs.YtfinaikgikifcaaDoor.framem Go.Proofs.YtfinaikgikifcaaDoor.framel Go.Proofs.YtfinaikgikifcaaDoor.framea

def eqLL (xs ys : List (List Int)) : Bool := decide (xs = ys)
theorem eqLL_self (xs : List (List Int)) : eqLL xs xs = true := decide_eq_true rfl
theorem eqLL_ne {xs ys : List (List Int)} (h : xs ≠ ys) : eqLL xs ys = false := decide_eq_false h
theorem RdBB.drawn {w : World} {A : Option Addr} {n : Nat} {xs : List (List Int)} (h : RdBB w A n xs) (k : Nat) : RdBB (w.drewN k) A n xs := h.below (pw_below_drewN (Below.refl _ _) k)
set_option maxHeartbeats 1000000 in
theorem alike_any (A : Option Addr) (n c : Nat) (xs : List (List Int)) (A' : Option Addr) (n' c' : Nat) (ys : List (List Int)) (w : World) (hx : RdBB w A n xs) (hy : RdBB w A' n' ys) :
    Calls Tryd.prog 14 #[.slice A n c, .slice A' n' c'] w fun e w' => e = .returned (.bool (eqLL xs ys)) ∧ Drawn0 w w' := by
  have HX := Lib.hid hx
  have HY := Lib.hid hy
  have hn := hx.2.1
  have hn' := hy.2.1
  clear hx hy
  by_cases hlen : n = n'
  · subst hlen
    clear hn'
    go_enter Tryd.func14, Tryd.ntmps14
    go_wp2
    go_loopw [5, 13] (fun _ i wr => ∃ k : Nat, k ≤ n ∧ i = .int .i64 k ∧ Aside0 (xs.take k = ys.take k) ∧ Drawn0 w wr) (fun _ i _ => n - (intOf i).toNat)
    case atStart => exact ⟨0, by omega, rfl, ⟨rfl⟩, Drawn0.refl _⟩
    case round =>
      obtain ⟨k, hk, rfl, HE, HD⟩ := hrel
      have HXr : Hid (RdBB wr A n xs) := Lib.hid (by obtain ⟨q, rfl⟩ := HD; exact RdBB.drawn HX.out q)
      have HYr : Hid (RdBB wr A' n ys) := Lib.hid (by obtain ⟨q, rfl⟩ := HD; exact RdBB.drawn HY.out q)
      by_cases hlt : k < n
      · obtain ⟨ad, rfl, a1, m1, c1, hcx, hc1, hr1⟩ := HXr.out.at_ k hlt
        obtain ⟨ad', rfl, a2, m2, c2, hcy, hc2, hr2⟩ := HYr.out.at_ k hlt
        have H1 := Lib.hid hr1
        have H2 := Lib.hid hr2
        clear hr1 hr2
        by_cases hne : xs.getD k [] = ys.getD k []
        · have h2 : xs.take (k + 1) = ys.take (k + 1) := by rw [take_snoc2 xs k (by rw [HX.out.1]; exact hlt), take_snoc2 ys k (by rw [HY.out.1]; exact hlt), HE.out, hne]
          rw [← hne] at H2
          have HT := Aside0.mk h2
          generalize xs.getD k [] = x at H1 H2
          have HS : Hid (∀ q, Calls Tryd.prog 13 #[.slice a1 m1 c1, .slice a2 m2 c2] (wr.drewN q) fun e w' => e = .returned (.bool true) ∧ Drawn0 (wr.drewN q) w') := Lib.hid fun q => by
            have := same_any a1 m1 c1 x a2 m2 c2 x (wr.drewN q) (H1.out.drawn q) (H2.out.drawn q)
            rwa [eqL_self] at this
          clear h2 hne
          go_wp2
          go_quiet ((go_at_call 13; exact Calls.quiet_of ((HS.out _).mono fun _ _ h => ⟨h.1, h.2.out⟩)))
          go_wp2
          go_roundw
          case rel => exact ⟨k + 1, by omega, by go_num, HT, HD.step _⟩
          case measure => simp [intOf]; omega
        · have HF : Hid (eqLL xs ys = false) := Lib.hid (eqLL_ne fun e => hne (by rw [e]))
          have HS : Hid (∀ q, Calls Tryd.prog 13 #[.slice a1 m1 c1, .slice a2 m2 c2] (wr.drewN q) fun e w' => e = .returned (.bool false) ∧ Drawn0 (wr.drewN q) w') := Lib.hid fun q => by
            have := same_any a1 m1 c1 _ a2 m2 c2 _ (wr.drewN q) (H1.out.drawn q) (H2.out.drawn q)
            rwa [eqL_ne hne] at this
          clear hne
          go_wp2
          go_quiet ((go_at_call 13; exact Calls.quiet_of ((HS.out _).mono fun _ _ h => ⟨h.1, h.2.out⟩)))
          go_wp2
          go_ret
          exact ⟨by rw [HF.out]; rfl, HD.step _⟩
      · obtain rfl : k = n := by omega
        have HF : Hid (eqLL xs ys = true) := Lib.hid (by
          have h := HE.out
          rw [List.take_of_length_le (by have := HX.out.1; omega), List.take_of_length_le (by have := HY.out.1; omega)] at h
          rw [h]; exact eqLL_self _)
        go_wp2
        go_ret
        exact ⟨by rw [HF.out]; rfl, HD⟩
  · have HF : Hid (eqLL xs ys = false) := Lib.hid (eqLL_ne fun e => hlen (by rw [← HX.out.1, ← HY.out.1, e]))
    have hb : ((n : Int) != (n' : Int)) = true := by rw [bne_iff_ne]; omega
    clear hlen
    go_enter Tryd.func14, Tryd.ntmps14
    go_wp2
    go_ret
    exact ⟨by rw [HF.out]; rfl, Drawn0.refl _⟩
end Go.Proofs.YtfinaikgikifcaaDoor.framer
/- What a walk over the frames knows of memory; both ways out of the loop joined. -/
namespace Go.Proofs.YtfinaikgikifcaaDoor.framen
open Go.RowKit Go.Shelf Go.Proofs.YtfinaikgikifcaaDoorW.PrintWords Go.Proofs.YtfinaikgikifcaaDoor.base Go.Proofs.YtfinaikgikifcaaDoor.mem Go.Proofs.YtfinaikgikifcaaDoor.crcp Go.Proofs.YtfinaikgikifcaaDoor.crcw Go.Proofs.YtfinaikgikifcaaDoor.samew Go.Proofs.YtfinaikgikifcaaDoor.keep Go.Proofs.YtfinaikgikifcaaDoor.framep Go.Proofs.YtfinaikgikifcaaDoor.framew Go.Proofs.YtfinaikgikifcaaDoor.frameit Go.Proofs.YtfinaikgikifcaaDoor.framem Go.Proofs.YtfinaikgikifcaaDoor.framel Go.Proofs.YtfinaikgikifcaaDoor.framea Go.Proofs.YtfinaikgikifcaaDoor.framer Go.Proofs.YtfinaikgikifcaaDoor.over

theorem prefix_at {α : Type} {pre L : List α} {x : α} (h : pre ++ [x] <+: L) : L[pre.length]? = some x := by
  obtain ⟨t, rfl⟩ := h
  simp
/-- the places are one behind the other -/
theorem fitems_place : ∀ (pre : List (Nat × Nat)) (f p : Nat) (xs : List Int) (x : Nat × Nat), pre ++ [x] <+: fitems f p xs → x.1 = (match pre.getLast? with | none => p | some y => y.1 + 8 + y.2) := by
  intro pre
  induction pre with
  | nil =>
    intro f p xs x h
    cases f with
    | zero => simp [fitems] at h
    | succ f =>
      by_cases h0 : firstN xs = 0
      · rw [fitems_end _ _ _ h0] at h; simp at h
      · rw [fitems_next _ _ _ h0] at h
        obtain ⟨t, ht⟩ := h
        simp at ht
        obtain ⟨rfl, _⟩ := ht
        rfl
  | cons y pre ih =>
    intro f p xs x h
    cases f with
    | zero => simp [fitems] at h
    | succ f =>
      by_cases h0 : firstN xs = 0
      · rw [fitems_end _ _ _ h0] at h; simp at h
      · rw [fitems_next _ _ _ h0] at h
        have hg := firstN_ge xs h0
        rw [List.cons_append, List.cons_prefix_cons] at h
        obtain ⟨hy, h⟩ := h
        have := ih _ _ _ _ h
        rw [this]
        cases pre with
        | nil => subst hy; simp; omega
        | cons z pre => rfl
theorem flist_place {pre : List (Nat × Nat)} {x : Nat × Nat} {xs : List Int} (h : pre ++ [x] <+: flist xs) : x.1 = endL pre := by
  have := fitems_place pre _ _ _ _ h
  rw [this]
  unfold endL
  cases pre.getLast? <;> rfl
theorem V.place {xs : List Int} {B : Nat} {pre : List It} {x : It} {W : World} (h : V xs B pre x W) : x.p = endOf pre := by
  have h1 := h.1
  rw [List.map_append] at h1
  exact flist_place h1
theorem V.pays {xs : List Int} {B : Nat} {pre : List It} {x : It} {W : World} (h : V xs B pre x W) : (pays xs).getD pre.length [] = pay xs x := by
  have h1 := h.1
  rw [List.map_append] at h1
  have h2 := prefix_at h1
  rw [List.length_map] at h2
  unfold framea.pays
  rw [List.getD_eq_getElem?_getD, List.getElem?_map, h2]
  rfl
theorem pays_len (xs : List Int) : (pays xs).length = (flist xs).length := by simp [pays]
/-- a box of one whole number -/
def PC (p : Nat) (v : Int) (W : World) : Prop := W.cell? ⟨p, 0, none⟩ = some (.int .i64 v) ∧ W.frozen? ⟨p, 0, none⟩ = false
/-- what lay ahead of the loops, and the blocks of deferred calls -/
def FM (w4 : World) (ds : List Nat) (W : World) : Prop := Below w4.heap.size w4 W ∧ ∀ D ∈ ds, W.heap[D]? = some (.deferred (some []))
section
variable {p : Nat} {v : Int} {ds : List Nat} {w4 W W' : World}
theorem PC.own (h : PC p v W) {row : Option Nat} (hg : W.grownBy W' row) (hr : ∀ r, row = some r → ∃ o : Obj, W.heap[r]? = some o ∧ o.isCells = false) : PC p v W' := ⟨cell_kept h.1 hg hr, (frozen_kept h.1 hg hr).trans h.2⟩
theorem PC.below (h : PC p v W) (hb : Below W.heap.size W W') : PC p v W' := ⟨pw_cell_below hb h.1, (hb.frozen (p := ⟨p, 0, none⟩) (World.block_lt_of_cell? _ _ h.1)).trans h.2⟩
theorem PC.new (W : World) (t : TypeId) (v : Int) : PC W.heap.size v (W.alloc (.cells #[.int .i64 v] t)) := ⟨by simp, by simp⟩
theorem PC.set (h : PC p v W) (v' : Int) : PC p v' (W.setCell ⟨p, 0, none⟩ (.int .i64 v')) := ⟨World.cell?_setCell_same' _ _ _ (by rw [h.1]; rfl), by rw [World.frozen?_setCell]; exact h.2⟩
theorem PC.other (h : PC p v W) {q : Nat} (hq : q ≠ p) (u : Value) : PC p v (W.setCell ⟨q, 0, none⟩ u) := ⟨by rw [World.cell?_setCell_other _ _ _ _ (by intro e; injection e with e; exact hq e)]; exact h.1, by rw [World.frozen?_setCell]; exact h.2⟩
theorem PC.ck (h : PC p v W) (hk : CK W W') : PC p v W' := by
  obtain ⟨o, ho, hc⟩ := cells_of_cell h.1
  exact ⟨hk.cell h.1, (World.frozen?_of_block ((hk.2 _ _ ho hc).trans ho.symm)).trans h.2⟩
theorem FM.own {B : Nat} (h : FM w4 ds W) {row : Option Nat} (hg : W.grownBy W' row) (hr : ∀ r, row = some r → B ≤ r ∧ ∃ o : Obj, W.heap[r]? = some o ∧ o.isCells = false) (hB : w4.heap.size ≤ B) (hD : ∀ D ∈ ds, D < B) : FM w4 ds W' :=
  ⟨h.1.grown hg h.1.size (fun k e => Nat.le_trans hB (hr k e).1), fun D hd => by
    rw [hg.block D (Array.getElem?_eq_some_iff.1 (h.2 D hd)).1 (fun e => by have := (hr D e.symm).1; have := hD D hd; omega)]
    exact h.2 D hd⟩
theorem FM.below (h : FM w4 ds W) (hb : Below W.heap.size W W') : FM w4 ds W' :=
  ⟨h.1.trans (hb.mono h.1.size), fun D hd => by rw [hb.block D (Array.getElem?_eq_some_iff.1 (h.2 D hd)).1]; exact h.2 D hd⟩
theorem FM.set (h : FM w4 ds W) (hp : w4.heap.size ≤ p) (hD : ∀ D ∈ ds, D ≠ p) (v : Value) : FM w4 ds (W.setCell ⟨p, 0, none⟩ v) :=
  ⟨h.1.setCell (p := ⟨p, 0, none⟩) hp _, fun D hd => by rw [Below.heap_setCell _ _ _ _ (hD D hd)]; exact h.2 D hd⟩
theorem FM.more (h : FM w4 ds W) {D : Nat} (hD : W.heap[D]? = some (.deferred (some []))) : FM w4 (D :: ds) W :=
  ⟨h.1, fun E hE => by
    rcases List.mem_cons.1 hE with rfl | hE
    · exact hD
    · exact h.2 E hE⟩
end
theorem KT.past {lo hi p : Nat} {W : World} (hw : hi ≤ W.heap.size) (hp : hi ≤ p) (hg : p ≠ 0) (v : Value) : KT lo hi W (W.setCell ⟨p, 0, none⟩ v) :=
  ⟨(Band.refl hw).set (.inr hp) _ _, fun t i hi => by
    rw [World.cell?_setCell_other _ _ _ _ (by intro e; injection e with e; exact hg e)]
    exact t i hi, by simp [World.setCell]⟩
theorem overF {Q : Exit → Act → World → Prop} {g : Operand} {ps : Array Tmp} {assign body : Code} {a : Act} {W0 : World} {Bs lo hi : Nat} {xs : List Int}
    (hg : a.eval g = .func (.func 62) #[] #[.pointer (some ⟨Bs, 0, none⟩)]) (hN : NumsAt lo hi W0 Bs xs) (hhi : hi ≤ W0.heap.size) (hT : Table W0) (hps : 2 = ps.size)
    (I : List It → World → Prop) (Ix : Code → List It → World → Prop) (hI : OwnFrom W0.heap.size I) (hIx : ∀ c, OwnFrom W0.heap.size (Ix c)) (h0 : I [] W0) (J : World → Prop) (id : Nat) (a₁ : It → Act)
    (hassign : ∀ (l : Nat) (x : It) (W : World) (K : Act → World → Prop), K (a₁ x) W →
      assign.wpIn (Fence.wide.inRound l) (6 - 1 - 1) Tryd.prog (Exit.then K (fun _ _ _ => False)) { tmps := (ps.zip (encs x)).foldl (fun t (p, v) => t.setIfInBounds p v) a.tmps, defers := [] } W)
    (hbody : ∀ (l : Nat) (pre : List It) (x : It) (Wa W : World), I pre Wa → I pre W → W0.heap.size ≤ Wa.heap.size → CK Wa W → V xs Wa.heap.size pre x W → body.wpIn (Fence.wide.inRound l) (6 - 1 - 1) Tryd.prog (ownPostG W0.heap.size (KT lo hi) I Ix (pre ++ [x]) W) (a₁ x) W)
    (hS : ∀ ys W, ys.map It.key = flist xs → I ys W → J W) (hSp : ∀ c pre W, pre.map It.key <+: flist xs → Ix c pre W → c = .exit id ∧ J W ∧ ∀ a w, Q .normal a w → Q (.exit id) a w)
    (hend : ∀ (D : Nat) (W : World), W0.heap.size ≤ D → J W → W.heap[D]? = some (.deferred (some [])) → Q .normal { a with defers := { target := .collected D, args := #[] } :: a.defers } W) :
    (Code.rangeFunc g ps assign body).wpIn Fence.wide 6 Tryd.prog Q a W0 := by
  refine wpIn_overV rfl (by decide) (gf := 62) (lb := #[.pointer (some ⟨Bs, 0, none⟩)]) hg trivial (enters_of Tryd.func62 (by kernel_rfl) rfl) (all_v (6 - 1) (by decide) Bs lo hi xs W0 hhi hN hT) (fun h k => KT.trans h k) (KT.put hhi hT) (Below.refl _ _) (fun _ => hps) (fun B => V.own B) I Ix hI hIx h0 a₁ hassign hbody ?_ ?_
  · rintro D ys W hD hS' hi hK
    exact hend D W hD (hS ys W hS' hi) hK
  · rintro D c pre W hD hp hx hK
    obtain ⟨rfl, hJ, hq⟩ := hSp c pre W hp hx
    exact wpIn_exit (hq _ _ (hend D W hD hJ hK))
theorem nilSeqIn (d f : Nat) (e : Array Value) (W : World) : (Op.equalIn (d + 1) 87 (.func (.func f) #[] e) .nilFunc).run Tryd.prog W = .ok false W := by
  simp [Op.equalIn, run_underlying Tryd.underlying87]
theorem nilSeqEq (f : Nat) (e : Array Value) (W : World) : (Op.equal 87 (.func (.func f) #[] e) .nilFunc).run Tryd.prog W = .ok false W := nilSeqIn 9999 f e W
theorem nilSeq (f : Nat) (e : Array Value) (W : World) : (binOp .eql 87 (.func (.func f) #[] e) .nilFunc).run Tryd.prog W = .ok (.bool false) W := by
  simp only [binOp]
  simp [nilSeqEq]
theorem leavesAll {F : Fence} {n : Nat} {P : Program} {fn : Func} {tmps : Array Value} {R : Ending → World → Prop} (b0 : Nat) : ∀ (ds : List Nat) (w : World), ds.Nodup → (∀ D ∈ ds, b0 ≤ D) → (∀ D ∈ ds, w.heap[D]? = some (.deferred (some []))) →
    (∀ w', (∀ b v, w.cell? ⟨b, 0, none⟩ = some v → w'.cell? ⟨b, 0, none⟩ = some v) → Below b0 w w' → LeavesIn F n P fn tmps R [] .returning w') → LeavesInM F n P fn tmps R (ds.map fun D => { target := .collected D, args := #[] }) .returning w := by
  intro ds
  induction ds with
  | nil => intro w _ _ _ h; exact h w (fun _ _ h => h) (Below.refl _ _)
  | cons D ds ih =>
    intro w hn hb hd h
    have hK := hd D (by simp)
    refine ⟨by simp, .inl ⟨D, _, rfl, run_takeDeferred hK, ?_⟩⟩
    have hlt := (Array.getElem?_eq_some_iff.1 hK).1
    have hbl : Below b0 w (w.putObj D (.deferred none)) := (Below.refl b0 w).grown (grownBy_putObj' w D _) (Nat.le_trans (hb D (by simp)) (Nat.le_of_lt hlt)) (fun k e => by cases e; exact hb D (by simp))
    have hcell : ∀ b v, w.cell? ⟨b, 0, none⟩ = some v → (w.putObj D (.deferred none)).cell? ⟨b, 0, none⟩ = some v := fun b v hc => cell_kept hc (grownBy_putObj' _ D (.deferred none)) (fun r e => by cases e; exact ⟨_, hK, rfl⟩)
    refine ih _ (List.nodup_cons.1 hn).2 (fun E hE => hb E (by simp [hE])) (fun E hE => ?_) (fun w' h1 h2 => h w' (fun b v hc => h1 b v (hcell b v hc)) (hbl.trans h2))
    have hne : E ≠ D := fun e => (List.nodup_cons.1 hn).1 (e ▸ hE)
    rw [World.putObj_heap_other hne]
    exact hd E (by simp [hE])
end Go.Proofs.YtfinaikgikifcaaDoor.framen
/- What is true of frames one behind the other: plain laws. -/
namespace Go.Proofs.YtfinaikgikifcaaDoor.framen
open Go.RowKit Go.Shelf Go.Proofs.YtfinaikgikifcaaDoorW.PrintWords Go.Proofs.YtfinaikgikifcaaDoor.base Go.Proofs.YtfinaikgikifcaaDoor.mem Go.Proofs.YtfinaikgikifcaaDoor.crcp Go.Proofs.YtfinaikgikifcaaDoor.crcw Go.Proofs.YtfinaikgikifcaaDoor.samew Go.Proofs.YtfinaikgikifcaaDoor.keep Go.Proofs.YtfinaikgikifcaaDoor.framep Go.Proofs.YtfinaikgikifcaaDoor.framew Go.Proofs.YtfinaikgikifcaaDoor.frameit Go.Proofs.YtfinaikgikifcaaDoor.framem Go.Proofs.YtfinaikgikifcaaDoor.framel Go.Proofs.YtfinaikgikifcaaDoor.framea Go.Proofs.YtfinaikgikifcaaDoor.framer

/-! ### one frame behind the other, without places -/
def fp : Nat → List Int → List (List Int)
  | 0, _ => []
  | f + 1, xs => if firstN xs = 0 then [] else (xs.drop 8).take (firstN xs - 8) :: fp f (xs.drop (firstN xs))
def fe : Nat → List Int → Nat
  | 0, _ => 0
  | f + 1, xs => if firstN xs = 0 then 0 else firstN xs + fe f (xs.drop (firstN xs))
theorem firstN_pos {xs : List Int} (h : firstN xs ≠ 0) : 8 ≤ firstN xs ∧ firstN xs ≤ xs.length := ⟨firstN_ge _ h, firstN_le _⟩
theorem fp_fuel : ∀ (f g : Nat) (xs : List Int), xs.length ≤ f → xs.length ≤ g → fp f xs = fp g xs ∧ fe f xs = fe g xs := by
  intro f
  induction f with
  | zero =>
    intro g xs hf hg
    obtain rfl : xs = [] := List.eq_nil_of_length_eq_zero (by omega)
    cases g with
    | zero => exact ⟨rfl, rfl⟩
    | succ g => exact ⟨rfl, rfl⟩
  | succ f ih =>
    intro g xs hf hg
    by_cases h : firstN xs = 0
    · cases g with
      | zero => simp [fp, fe, h]
      | succ g => simp [fp, fe, h]
    · obtain ⟨h1, h2⟩ := firstN_pos h
      cases g with
      | zero => omega
      | succ g =>
        obtain ⟨e1, e2⟩ := ih g (xs.drop (firstN xs)) (by rw [List.length_drop]; omega) (by rw [List.length_drop]; omega)
        simp only [fp, fe, if_neg h, e1, e2]
        exact ⟨trivial, trivial⟩
def P (xs : List Int) : List (List Int) := fp xs.length xs
def E (xs : List Int) : Nat := fe xs.length xs
theorem P_stop {xs : List Int} (h : firstN xs = 0) : P xs = [] ∧ E xs = 0 := by
  unfold P E
  cases xs.length with
  | zero => exact ⟨rfl, rfl⟩
  | succ f => simp [fp, fe, h]
theorem P_next {xs : List Int} (h : firstN xs ≠ 0) : P xs = (xs.drop 8).take (firstN xs - 8) :: P (xs.drop (firstN xs)) ∧ E xs = firstN xs + E (xs.drop (firstN xs)) := by
  obtain ⟨h1, h2⟩ := firstN_pos h
  obtain ⟨f, hf⟩ : ∃ f, xs.length = f + 1 := ⟨xs.length - 1, by omega⟩
  obtain ⟨e1, e2⟩ := fp_fuel f (xs.drop (firstN xs)).length (xs.drop (firstN xs)) (by rw [List.length_drop]; omega) (Nat.le_refl _)
  unfold P E
  rw [hf]
  simp only [fp, fe, if_neg h, e1, e2]
  exact ⟨trivial, trivial⟩
/-- the last place behind p -/
def endP (p : Nat) (L : List (Nat × Nat)) : Nat := match L.getLast? with | none => p | some x => x.1 + 8 + x.2
theorem endL_P (L : List (Nat × Nat)) : endL L = endP 0 L := rfl
theorem fitems_fp : ∀ (f p : Nat) (xs ys : List Int), ys = xs.drop p → (fitems f p ys).map (payK xs) = fp f ys ∧ endP p (fitems f p ys) = p + fe f ys := by
  intro f
  induction f with
  | zero => intro p xs ys h; exact ⟨rfl, rfl⟩
  | succ f ih =>
    intro p xs ys h
    by_cases h0 : firstN ys = 0
    · rw [fitems_end _ _ _ h0]; simp [fp, fe, h0, endP]
    · rw [fitems_next _ _ _ h0]
      obtain ⟨e1, e2⟩ := ih (p + firstN ys) xs (ys.drop (firstN ys)) (by rw [h, List.drop_drop])
      have hg := firstN_ge ys h0
      refine ⟨?_, ?_⟩
      · simp only [List.map_cons, fp, if_neg h0, e1]
        congr 1
        unfold payK
        rw [h, List.drop_drop]
      · simp only [fe, if_neg h0]
        rw [← Nat.add_assoc, ← e2]
        unfold endP
        cases hl : fitems f (p + firstN ys) (ys.drop (firstN ys)) with
        | nil => simp; omega
        | cons z zs => simp [List.getLast?_cons]
theorem pays_P (xs : List Int) : pays xs = P xs := (fitems_fp xs.length 0 xs xs rfl).1
theorem end_E (xs : List Int) : endL (flist xs) = E xs := by
  have := (fitems_fp xs.length 0 xs xs rfl).2
  rw [endL_P]
  unfold flist
  rw [this]
  unfold E
  omega
theorem P_len : ∀ (n : Nat) (xs : List Int), xs.length ≤ n → (P xs).length * 8 ≤ xs.length := by
  intro n xs _
  rw [← pays_P, pays_len]
  exact flist_len xs
/-! ### a frame, and what stands behind -/
theorem P_fenc (p more : List Int) (h : p.length ≤ 1048576) : P (fenc p ++ more) = p :: P more ∧ E (fenc p ++ more) = 8 + p.length + E more := by
  have e := firstN_fenc p more h
  obtain ⟨h1, h2⟩ := P_next (xs := fenc p ++ more) (by omega)
  rw [e, List.drop_left' (fenc_len p)] at h1 h2
  refine ⟨?_, h2⟩
  rw [h1]
  have : (fenc p ++ more).drop 8 = p ++ more := rfl
  rw [this, show 8 + p.length - 8 = p.length from by omega, List.take_left]
/-- frames one behind the other -/
def fencs (ps : List (List Int)) : List Int := ps.flatMap fenc
theorem fencs_snoc (ps : List (List Int)) (p : List Int) : fencs (ps ++ [p]) = fencs ps ++ fenc p := by simp [fencs]
theorem fencs_len (ps : List (List Int)) : (fencs ps).length = ps.length * 8 + ps.flatten.length := by
  induction ps with
  | nil => rfl
  | cons p ps ih => simp only [fencs, List.flatMap_cons, List.length_append, List.flatten_cons, List.length_cons] at ih ⊢; rw [ih, fenc_len]; omega
theorem P_fencs (ps : List (List Int)) (more : List Int) (h : ∀ p ∈ ps, p.length ≤ 1048576) : P (fencs ps ++ more) = ps ++ P more ∧ E (fencs ps ++ more) = (fencs ps).length + E more := by
  induction ps with
  | nil => exact ⟨rfl, by simp [fencs]⟩
  | cons p ps ih =>
    obtain ⟨e1, e2⟩ := ih fun q hq => h q (by simp [hq])
    obtain ⟨e3, e4⟩ := P_fenc p (fencs ps ++ more) (h p (by simp))
    have hs : fencs (p :: ps) ++ more = fenc p ++ (fencs ps ++ more) := by simp [fencs]
    rw [hs, e3, e4, e1, e2]
    refine ⟨rfl, ?_⟩
    have : fencs (p :: ps) = fenc p ++ fencs ps := by simp [fencs]
    rw [this, List.length_append, fenc_len]
    omega
/-! ### a beginning -/
theorem w4_take {xs : List Int} {k : Nat} (h : 4 ≤ k) : w4 (xs.take k) = w4 xs := by
  unfold w4
  simp only [List.getD_eq_getElem?_getD, List.getElem?_take, if_pos (show 0 < k by omega), if_pos (show 1 < k by omega), if_pos (show 2 < k by omega), if_pos (show 3 < k by omega)]
theorem firstN_take {xs : List Int} {k : Nat} (hk : k ≤ xs.length) (h : firstN (xs.take k) ≠ 0) : firstN xs = firstN (xs.take k) := by
  have hl : (xs.take k).length = k := by rw [List.length_take]; omega
  have h8 := firstN_pos h
  rw [hl] at h8
  have hw : w4 (xs.take k) = w4 xs := w4_take (by omega)
  have e1 : (xs.take k).take 4 = xs.take 4 := by rw [List.take_take]; congr 1; omega
  have e3 : w4 ((xs.take k).drop 4) = w4 (xs.drop 4) := by rw [List.drop_take]; exact w4_take (by omega)
  have hR : firstN (xs.take k) = if 1048576 < (w4 xs).toNat ∨ k - 8 < (w4 xs).toNat ∨ parts 0 [xs.take 4, ((xs.take k).drop 8).take (w4 xs).toNat] ≠ w4 (xs.drop 4) then 0 else 8 + (w4 xs).toNat := by
    conv => lhs; unfold firstN
    rw [hl, hw, e1, e3, if_neg (by omega)]
  have hL : firstN xs = if 1048576 < (w4 xs).toNat ∨ xs.length - 8 < (w4 xs).toNat ∨ parts 0 [xs.take 4, (xs.drop 8).take (w4 xs).toNat] ≠ w4 (xs.drop 4) then 0 else 8 + (w4 xs).toNat := by
    conv => lhs; unfold firstN
    rw [if_neg (by omega)]
  generalize (w4 xs).toNat = v at hR hL
  rw [hR] at h ⊢
  by_cases hc : 1048576 < v ∨ k - 8 < v ∨ parts 0 [xs.take 4, ((xs.take k).drop 8).take v] ≠ w4 (xs.drop 4)
  · rw [if_pos hc] at h; exact absurd rfl h
  · have h1 : ¬ 1048576 < v := fun e => hc (.inl e)
    have h2 : ¬ k - 8 < v := fun e => hc (.inr (.inl e))
    have e2 : ((xs.take k).drop 8).take v = (xs.drop 8).take v := by rw [List.drop_take, List.take_take]; congr 1; omega
    rw [if_neg hc, hL, if_neg]
    rw [e2] at hc
    exact fun e => hc (by
      rcases e with e | e | e
      · exact .inl e
      · exact absurd e (by omega)
      · exact .inr (.inr e))
theorem heads : ∀ (n : Nat) (xs : List Int) (k : Nat), xs.length ≤ n → k ≤ xs.length → P (xs.take k) <+: P xs ∧ E (xs.take k) ≤ k ∧ E (xs.take k) ≤ E xs := by
  intro n
  induction n with
  | zero =>
    intro xs k hn hk
    obtain rfl : xs = [] := List.eq_nil_of_length_eq_zero (by omega)
    simp only [List.take_nil]
    exact ⟨List.prefix_refl _, Nat.zero_le _, Nat.le_refl _⟩
  | succ n ih =>
    intro xs k hn hk
    by_cases h0 : firstN (xs.take k) = 0
    · obtain ⟨e1, e2⟩ := P_stop h0
      rw [e1, e2]
      exact ⟨List.nil_prefix, Nat.zero_le _, Nat.zero_le _⟩
    · have hj := firstN_take hk h0
      have hl : (xs.take k).length = k := by rw [List.length_take]; omega
      have h8 := firstN_pos h0
      rw [hl] at h8
      obtain ⟨e1, e2⟩ := P_next h0
      obtain ⟨e3, e4⟩ := P_next (xs := xs) (by rw [hj]; exact h0)
      rw [e1, e2, e3, e4, hj]
      generalize firstN (xs.take k) = j at h8
      have ed : (xs.take k).drop j = (xs.drop j).take (k - j) := List.drop_take ..
      have ep : ((xs.take k).drop 8).take (j - 8) = (xs.drop 8).take (j - 8) := by rw [List.drop_take, List.take_take]; congr 1; omega
      obtain ⟨i1, i2, i3⟩ := ih (xs.drop j) (k - j) (by rw [List.length_drop]; omega) (by rw [List.length_drop]; omega)
      rw [ed, ep]
      exact ⟨List.cons_prefix_cons.2 ⟨rfl, i1⟩, by omega, by omega⟩
theorem E_le (xs : List Int) : E xs ≤ xs.length := by
  have := (heads xs.length xs xs.length (Nat.le_refl _) (Nat.le_refl _)).2.1
  rwa [List.take_length] at this
/-- a frame cut short is none -/
theorem torn (p : List Int) (k : Nat) (h : p.length ≤ 1048576) (hk : k < (fenc p).length) : P ((fenc p).take k) = [] ∧ E ((fenc p).take k) = 0 := by
  refine P_stop ?_
  by_cases h0 : firstN ((fenc p).take k) = 0
  · exact h0
  · have h1 := firstN_take (Nat.le_of_lt hk) h0
    have h2 := firstN_fenc p [] h
    rw [List.append_nil] at h2
    have h3 := firstN_le ((fenc p).take k)
    rw [List.length_take] at h3
    rw [fenc_len] at hk
    omega
end Go.Proofs.YtfinaikgikifcaaDoor.framen
/- What a vault does: plain Lean. -/
namespace Go.Proofs.YtfinaikgikifcaaDoor.vaultp
open Go.RowKit Go.Shelf Go.Proofs.YtfinaikgikifcaaDoorW.PrintWords Go.Proofs.YtfinaikgikifcaaDoor.base Go.Proofs.YtfinaikgikifcaaDoor.mem Go.Proofs.YtfinaikgikifcaaDoor.samew Go.Proofs.YtfinaikgikifcaaDoor.framep Go.Proofs.YtfinaikgikifcaaDoor.frameit Go.Proofs.YtfinaikgikifcaaDoor.framem Go.Proofs.YtfinaikgikifcaaDoor.framel Go.Proofs.YtfinaikgikifcaaDoor.framea Go.Proofs.YtfinaikgikifcaaDoor.framer Go.Proofs.YtfinaikgikifcaaDoor.framen Go.Proofs.YtfinaikgikifcaaDoor.diskp Go.Proofs.YtfinaikgikifcaaDoor.diskr Go.Proofs.YtfinaikgikifcaaDoor.diskw

/-- eight bytes, the lowest first -/
def byte8 (g : Int) (i : Nat) : Int := g / 2 ^ (8 * i) % 256
def le8 (g : Int) : List Int := (List.range 8).map (byte8 g)
def leK (g : Int) (k : Nat) : List Int := (List.range k).map (byte8 g)
theorem leK_next (g : Int) (k : Nat) : leK g (k + 1) = leK g k ++ [byte8 g k] := by unfold leK; rw [List.range_succ, List.map_append]; rfl
theorem le8_len (g : Int) : (le8 g).length = 8 := by simp [le8]
theorem leK_len (g : Int) (k : Nat) : (leK g k).length = k := by simp [leK]
theorem byte8_range (g : Int) (i : Nat) : 0 ≤ byte8 g i ∧ byte8 g i ≤ 255 := by unfold byte8; omega
theorem By_le8 (g : Int) : By (le8 g) := By_of _ fun z hz => by
  simp only [le8, List.mem_map] at hz
  obtain ⟨i, _, rfl⟩ := hz
  exact byte8_range g i
/-- the first frame of a file: a generation and a snapshot -/
def firstB (g : Int) (s : List Int) : List Int := fenc (le8 g ++ s)
def firstR (g : Int) (s : List Int) : List Int × Int := if 8 + s.length ≤ 1048576 then (firstB g s, 0) else ([], 3)
end Go.Proofs.YtfinaikgikifcaaDoor.vaultp
/- What the vault's small functions compute. -/
namespace Go.Proofs.YtfinaikgikifcaaDoor.vaultw
open Go.RowKit Go.Shelf Go.Proofs.YtfinaikgikifcaaDoorW.PrintWords Go.Proofs.YtfinaikgikifcaaDoor.base Go.Proofs.YtfinaikgikifcaaDoor.mem Go.Proofs.YtfinaikgikifcaaDoor.keep Go.Proofs.YtfinaikgikifcaaDoor.crcp Go.Proofs.YtfinaikgikifcaaDoor.crcw Go.Proofs.YtfinaikgikifcaaDoor.samew Go.Proofs.YtfinaikgikifcaaDoor.framep Go.Proofs.YtfinaikgikifcaaDoor.framew Go.Proofs.YtfinaikgikifcaaDoor.frameit Go.Proofs.YtfinaikgikifcaaDoor.framem Go.Proofs.YtfinaikgikifcaaDoor.framel Go.Proofs.YtfinaikgikifcaaDoor.framea Go.Proofs.YtfinaikgikifcaaDoor.framer Go.Proofs.YtfinaikgikifcaaDoor.framen Go.Proofs.YtfinaikgikifcaaDoor.diskp Go.Proofs.YtfinaikgikifcaaDoor.diskr Go.Proofs.YtfinaikgikifcaaDoor.diskw Go.Proofs.YtfinaikgikifcaaDoor.vaultp

theorem first_any (g : Int) (hg : 0 ≤ g ∧ g ≤ 4611686018427387905) (A : Option Addr) (n c : Nat) (xs : List Int) (w : World) (hr : RdB w A n xs) (hn : n + 8 ≤ 140737488355328) (ht : Table w) :
    Calls Tryd.prog 32 #[.int .i64 g, .slice A n c] w (RetR w (firstR g xs).1 (firstR g xs).2) := by
  have HR := Lib.hid hr
  have HT := Lib.hid ht
  have hlen := hr.len
  clear hr ht
  go_enter Tryd.func32, Tryd.ntmps32
  go_wp2
  go_loopw [6, 8] (fun r i wr => ∃ (k : Nat) (A1 : Option Addr) (n1 c1 : Nat), k ≤ 8 ∧ i = .int .i64 k ∧ r = .slice A1 n1 c1 ∧ Aside0 (OwB wr w.heap.size A1 n1 c1 (leK g k)) ∧ Aside0 (Below w.heap.size w wr)) (fun _ i _ => 8 - (intOf i).toNat)
  case atStart => exact ⟨0, none, 0, 0, by omega, rfl, rfl, ⟨OwB.nil _ _⟩, ⟨Below.refl _ _⟩⟩
  case round =>
    obtain ⟨k, A1, n1, c1, hk, rfl, rfl, HO, HB⟩ := hrel
    by_cases hlt : k < 8
    · have hs := HB.out.size
      have hl1 := HO.out.len
      rw [leK_len] at hl1
      have hk1 : n1 ≤ 8 := by omega
      clear hl1
      have HL : Hid (By [byte8 g k]) := Lib.hid (By_of _ fun z hz => by simp at hz; subst hz; exact byte8_range g k)
      have HLE := Lib.hid (leK_next g k)
      have HE : Hid (byte8 g k = g / 2 ^ (8 * k) % 256) := Lib.hid rfl
      have HLR := Lib.hid (litB wr (0, 0) [byte8 g k] (Nat.le_of_ble_eq_true rfl) HL.out)
      unfold byte8 at HLR
      go_wp2_with (first | (at_builtin; refine app (w0 := w) (base := w.heap.size) rfl (.tmp 11) (.tmp 17) rfl rfl rfl (HO.out.alloc _) (HLR.out) (HB.out.alloc hs _) ?s2 ?l2 ?_; (case s2 => simp; omega); (case l2 => simp; omega); intro A2 n2 c2 w2 ho hb; have HO2 := Lib.hid ho; have HB2 := Lib.hid hb; clear ho hb) | fail)
      go_roundw
      case rel => exact ⟨k + 1, A2, n2, c2, by omega, by go_num, rfl, ⟨by rw [HLE.out, HE.out]; exact HO2.out⟩, ⟨HB2.out⟩⟩
      case measure => simp [intOf]; omega
    · obtain rfl : k = 8 := by omega
      have hs := HB.out.size
      have hl1 := HO.out.len
      rw [leK_len] at hl1
      subst hl1
      have HO8 : Hid (OwB wr w.heap.size A1 8 c1 (le8 g)) := Lib.hid HO.out
      have HL8 := Lib.hid (le8_len g)
      clear HO
      go_wp2_with (first | (at_builtin; refine app (w0 := w) (base := w.heap.size) rfl (.tmp 20) (.tmp 21) rfl rfl rfl (HO8.out) (HR.out.below HB.out) (HB.out) ?s3 ?l3 ?_; (case s3 => exact hs); (case l3 => omega); intro A3 n3 c3 w3 ho hb; have HO3 := Lib.hid ho; have HB3 := Lib.hid hb; have hl3 := ho.len; have hs3 := hb.size; have hc3 := ho.cap; clear ho hb) | fail)
      rw [List.length_append, HL8.out, hlen] at hl3
      have HE := Lib.hid (encode_any A3 n3 c3 _ w3 HO3.out.rd hc3 (HT.out.below HB3.out))
      unfold RetE at HE
      have HF : Hid ((if decide (n3 ≤ 1048576) = true then fenc (le8 g ++ xs) else []) = (firstR g xs).1 ∧ (if decide (n3 ≤ 1048576) = true then (0 : Int) else 3) = (firstR g xs).2) := Lib.hid (by
        unfold firstR firstB
        by_cases h : n3 ≤ 1048576
        · have h8 : 8 + xs.length ≤ 1048576 := by omega
          simp [h, h8]
        · have h8 : ¬ 8 + xs.length ≤ 1048576 := by omega
          simp [h, h8])
      rw [HF.out.1, HF.out.2] at HE
      generalize hys : (firstR g xs).1 = ys at HE
      generalize hrr : (firstR g xs).2 = r at HE
      have HY := Lib.hid hys
      have HRr := Lib.hid hrr
      clear hys hrr HF
      go_wp2_with fail
      refine HE.out.mono ?_
      rintro e w4 ⟨A4, n4, c4, rfl, ho4, hb4⟩
      have HO4 := Lib.hid ho4
      have HB4 := Lib.hid hb4
      clear ho4 hb4
      go_wp2
      refine bodyPost_ret (results_tmp2 rfl _ _ _) rfl ?_
      exact ⟨A4, n4, c4, by rw [HRr.out]; rfl, by rw [HY.out]; exact HO4.out.less hs3, HB3.out.trans (HB4.out.mono hs3)⟩
end Go.Proofs.YtfinaikgikifcaaDoor.vaultw
/- What the vault's steps make of a disk: plain Lean. -/
namespace Go.Proofs.YtfinaikgikifcaaDoor.vaultp
open Go.RowKit Go.Shelf Go.Proofs.YtfinaikgikifcaaDoorW.PrintWords Go.Proofs.YtfinaikgikifcaaDoor.base Go.Proofs.YtfinaikgikifcaaDoor.mem Go.Proofs.YtfinaikgikifcaaDoor.samew Go.Proofs.YtfinaikgikifcaaDoor.framep Go.Proofs.YtfinaikgikifcaaDoor.frameit Go.Proofs.YtfinaikgikifcaaDoor.framem Go.Proofs.YtfinaikgikifcaaDoor.framel Go.Proofs.YtfinaikgikifcaaDoor.framea Go.Proofs.YtfinaikgikifcaaDoor.framer Go.Proofs.YtfinaikgikifcaaDoor.framen Go.Proofs.YtfinaikgikifcaaDoor.diskp Go.Proofs.YtfinaikgikifcaaDoor.diskr Go.Proofs.YtfinaikgikifcaaDoor.diskw

def wipeR (d : D) (f size : Int) : D × Int := if size = 0 then (d, 0) else cutR d f 0
def beginR (d : D) (f : Int) (ys : List Int) : D × Int := if (appR d f ys).2 = 0 then syncR (appR d f ys).1 f else appR d f ys
def mendR (d : D) (f en size : Int) : D × Int := if en < size then (if (cutR d f en).2 = 0 then syncR (cutR d f en).1 f else cutR d f en) else syncR d f
section
variable {d : D} {S N : Nat}
theorem Ok.wipe (h : Ok d S N) (f size : Int) : Ok (wipeR d f size).1 S (N + 1) := by
  unfold wipeR
  split
  · exact h.more (Nat.le_refl _) (by omega)
  · exact h.cut f 0
theorem Ok.begin_ (h : Ok d S N) (f : Int) (ys : List Int) : Ok (beginR d f ys).1 (S + ys.length) (N + 2) := by
  unfold beginR
  split
  · exact (h.app f ys).sync f
  · exact (h.app f ys).more (Nat.le_refl _) (by omega)
theorem Ok.mend (h : Ok d S N) (f en size : Int) : Ok (mendR d f en size).1 S (N + 2) := by
  unfold mendR
  split
  · split
    · exact (h.cut f en).sync f
    · exact (h.cut f en).more (Nat.le_refl _) (by omega)
  · exact (h.sync f).more (Nat.le_refl _) (by omega)
end
end Go.Proofs.YtfinaikgikifcaaDoor.vaultp
/- What the vault's steps on a disk compute. -/
namespace Go.Proofs.YtfinaikgikifcaaDoor.vaultw
open Go.RowKit Go.Shelf Go.Proofs.YtfinaikgikifcaaDoorW.PrintWords Go.Proofs.YtfinaikgikifcaaDoor.base Go.Proofs.YtfinaikgikifcaaDoor.mem Go.Proofs.YtfinaikgikifcaaDoor.keep Go.Proofs.YtfinaikgikifcaaDoor.diskp Go.Proofs.YtfinaikgikifcaaDoor.diskr Go.Proofs.YtfinaikgikifcaaDoor.diskw Go.Proofs.YtfinaikgikifcaaDoor.vaultp

/-- a vault in memory -/
structure VB (w : World) (q p : Nat) (f g n s : Int) : Prop where
  box : w.heap[q]? = some (.cells #[.pointer (some ⟨p, 0, none⟩), .int .i64 f, .int .i64 g, .int .i64 n, .int .i64 s] 71 (0, 0))
section
variable {w w1 : World} {q p : Nat} {f g n s : Int}
theorem VB.lt (h : VB w q p f g n s) : q < w.heap.size := (Array.getElem?_eq_some_iff.1 h.box).1
theorem VB.block (h : VB w q p f g n s) (hb : w1.heap[q]? = w.heap[q]?) : VB w1 q p f g n s := ⟨hb.trans h.box⟩
theorem VB.below (h : VB w q p f g n s) (hb : Below w.heap.size w w1) : VB w1 q p f g n s := h.block (hb.block q h.lt)
theorem VB.kept {Q : Nat → Prop} (h : VB w q p f g n s) (hk : Kp Q w w1) (hq : Q q) : VB w1 q p f g n s := h.block (hk.2 q hq h.lt)
theorem VB.cells (h : VB w q p f g n s) : w.cell? ⟨q, 0, none⟩ = some (.pointer (some ⟨p, 0, none⟩)) ∧ w.cell? ⟨q, 1, none⟩ = some (.int .i64 f) ∧ w.cell? ⟨q, 2, none⟩ = some (.int .i64 g) ∧ w.cell? ⟨q, 3, none⟩ = some (.int .i64 n) ∧ w.cell? ⟨q, 4, none⟩ = some (.int .i64 s) := by
  unfold World.cell?
  simp [h.box]
theorem VB.free (h : VB w q p f g n s) (i : Nat) : w.frozen? ⟨q, i, none⟩ = false := by
  unfold World.frozen?
  simp [h.box]
end
variable {w : World} {base p : Nat} {cs : Nat → Sl} {d : D} {S N : Nat}
theorem wipe_any (h : DAt w base p cs d) (hd : Fit d) (f size : Int) :
    Calls Tryd.prog 34 #[.pointer (some ⟨p, 0, none⟩), .int .i64 f, .int .i64 size] w (RetD w base p cs (.int .i64 (wipeR d f size).2) (wipeR d f size).1) := by
  have HC := Lib.hid (trunc_any h hd f 0 (by omega))
  have H := Lib.hid h
  by_cases h0 : size = 0
  · have HE : Hid (wipeR d f size = (d, 0)) := Lib.hid (if_pos h0)
    subst h0
    clear h hd
    go_enter Tryd.func34, Tryd.ntmps34
    go_wp2
    go_ret
    rw [HE.out]
    exact ⟨rfl, cs, H.out, DStep.refl _ _ _ _⟩
  · have HE : Hid (wipeR d f size = cutR d f 0) := Lib.hid (if_neg h0)
    have hb : (size == 0) = false := beq_eq_false_iff_ne.2 h0
    clear h hd h0
    go_enter Tryd.func34, Tryd.ntmps34
    go_wp2_with fail
    refine HC.out.mono ?_
    rintro e w3 ⟨rfl, hp⟩
    have HP := Lib.hid hp
    clear hp
    go_wp2
    go_ret
    rw [HE.out]
    exact ⟨rfl, HP.out⟩
theorem begin_any (h : DAt w base p cs d) (hk : Ok d S N) (f : Int) (A : Option Addr) (m c : Nat) (ys : List Int) (hr : RdB w A m ys) (hS : S + m ≤ 70368744177664) (hN : N + 2 ≤ 4611686018427387904) :
    Calls Tryd.prog 35 #[.pointer (some ⟨p, 0, none⟩), .int .i64 f, .slice A m c] w (RetD w base p cs (.int .i64 (beginR d f ys).2) (beginR d f ys).1) := by
  have HA := Lib.hid (append_any h (hk.fit (by omega) (by omega)) f A m c ys hr (fun i hi => by have := hk.len i hi; omega))
  have HK := Lib.hid ((hk.app f ys).fit (by rw [hr.len]; omega) (by omega))
  by_cases h0 : (appR d f ys).2 = 0
  · have HE : Hid (beginR d f ys = syncR (appR d f ys).1 f) := Lib.hid (if_pos h0)
    rw [h0] at HA
    clear h hk hr h0
    generalize (appR d f ys).1 = d1 at HA HK HE
    go_enter Tryd.func35, Tryd.ntmps35
    go_wp2_with fail
    refine HA.out.mono ?_
    rintro e w3 ⟨rfl, cs3, h3, s3⟩
    have HS := Lib.hid (sync_any h3 HK.out f)
    have S3 := Lib.hid s3
    clear h3 s3
    go_wp2_with fail
    refine HS.out.mono ?_
    rintro e w4 hret
    have HRt := Lib.hid (RetD.from S3.out hret)
    obtain ⟨rfl, _⟩ := hret
    go_wp2
    go_ret
    rw [HE.out]
    exact HRt.out
  · have HE : Hid (beginR d f ys = appR d f ys) := Lib.hid (if_neg h0)
    have hb : ((appR d f ys).2 == 0) = false := beq_eq_false_iff_ne.2 h0
    have hb2 : ((appR d f ys).2 != 0) = true := by simp [h0]
    clear h hk hr h0
    generalize appR d f ys = r at *
    go_enter Tryd.func35, Tryd.ntmps35
    go_wp2_with fail
    refine HA.out.mono ?_
    rintro e w3 ⟨rfl, hp⟩
    have HP := Lib.hid hp
    clear hp
    go_wp2
    go_ret
    rw [HE.out]
    exact ⟨rfl, HP.out⟩
end Go.Proofs.YtfinaikgikifcaaDoor.vaultw
/- mend, and the vault's small methods. -/
namespace Go.Proofs.YtfinaikgikifcaaDoor.vaultw
open Go.RowKit Go.Shelf Go.Proofs.YtfinaikgikifcaaDoorW.PrintWords Go.Proofs.YtfinaikgikifcaaDoor.base Go.Proofs.YtfinaikgikifcaaDoor.mem Go.Proofs.YtfinaikgikifcaaDoor.keep Go.Proofs.YtfinaikgikifcaaDoor.diskp Go.Proofs.YtfinaikgikifcaaDoor.diskr Go.Proofs.YtfinaikgikifcaaDoor.diskw Go.Proofs.YtfinaikgikifcaaDoor.vaultp

variable {w : World} {base p q : Nat} {cs : Nat → Sl} {d : D} {S N : Nat} {f g n s : Int}
theorem ill_any (h : VB w q p f g n s) (e : Int) : Calls Tryd.prog 38 #[.pointer (some ⟨q, 0, none⟩), .int .i64 e] w fun r w' => r = .returned (.int .i64 e) ∧ w' = w.setCell ⟨q, 4, none⟩ (.int .i64 e) := by
  have e4 := h.cells.2.2.2.2
  have f4 := h.free 4
  clear h
  go_enter Tryd.func38, Tryd.ntmps38
  go_wp2
  go_ret
  exact ⟨rfl, rfl⟩
theorem count_any (h : VB w q p f g n s) : Calls Tryd.prog 16 #[.pointer (some ⟨q, 0, none⟩)] w fun r w' => r = .returned (.int .i64 n) ∧ w = w' := by
  have e3 := h.cells.2.2.2.1
  clear h
  go_enter Tryd.func16, Tryd.ntmps16
  go_wp2
  go_ret
  exact ⟨rfl, rfl⟩
theorem generation_any (h : VB w q p f g n s) : Calls Tryd.prog 15 #[.pointer (some ⟨q, 0, none⟩)] w fun r w' => r = .returned (.int .i64 g) ∧ w = w' := by
  have e3 := h.cells.2.2.1
  clear h
  go_enter Tryd.func15, Tryd.ntmps15
  go_wp2
  go_ret
  exact ⟨rfl, rfl⟩
theorem count_nil (w : World) : Calls Tryd.prog 16 #[.pointer none] w fun r w' => r = .returned (.int .i64 0) ∧ w = w' := by
  go_enter Tryd.func16, Tryd.ntmps16
  go_wp2
  go_ret
  exact ⟨rfl, rfl⟩
theorem generation_nil (w : World) : Calls Tryd.prog 15 #[.pointer none] w fun r w' => r = .returned (.int .i64 0) ∧ w = w' := by
  go_enter Tryd.func15, Tryd.ntmps15
  go_wp2
  go_ret
  exact ⟨rfl, rfl⟩
theorem append_nil (w : World) (v : Value) : Calls Tryd.prog 18 #[.pointer none, v] w fun r w' => r = .returned (.int .i64 2) ∧ w = w' := by
  go_enter Tryd.func18, Tryd.ntmps18
  go_wp2
  go_ret
  exact ⟨rfl, rfl⟩
theorem checkpoint_nil (w : World) (v : Value) : Calls Tryd.prog 19 #[.pointer none, v] w fun r w' => r = .returned (.int .i64 2) ∧ w = w' := by
  go_enter Tryd.func19, Tryd.ntmps19
  go_wp2
  go_ret
  exact ⟨rfl, rfl⟩
def keptV (g : Int) (A : Option Addr) (n c : Nat) (B : Option Addr) (m e : Nat) (size en : Int) : Value := .agg #[.int .i64 g, .slice A n c, .slice B m e, .int .i64 size, .int .i64 en]
set_option maxHeartbeats 1000000 in
set_option maxRecDepth 100000 in
theorem mend_any (h : DAt w base p cs d) (hk : Ok d S N) (hS : S ≤ 70368744177664) (hN : N + 2 ≤ 4611686018427387904) (hq : VB w q p f g n s) (hnq : ¬ Ft p cs q) (k0 : Int) (A : Option Addr) (a b : Nat) (B : Option Addr) (a' b' : Nat) (size en : Int) (hen : 0 ≤ en ∧ en ≤ 9223372036854775807) (hz : 0 ≤ size ∧ size ≤ 9223372036854775807) :
    Calls Tryd.prog 36 #[.pointer (some ⟨q, 0, none⟩), keptV k0 A a b B a' b' size en] w (RetD w base p cs (.int .i64 (mendR d f en size).2) (mendR d f en size).1) := by
  have hbs := h.base_le
  have B1 := Lib.hid (below_alloc (Below.refl w.heap.size w) (.cells #[.int .i64 k0, .slice A a b, .slice B a' b', .int .i64 size, .int .i64 en] 66))
  have e3 : (w.alloc (.cells #[.int .i64 k0, .slice A a b, .slice B a' b', .int .i64 size, .int .i64 en] 66)).cell? ⟨w.heap.size, 3, none⟩ = some (.int .i64 size) := by simp
  have e4 : (w.alloc (.cells #[.int .i64 k0, .slice A a b, .slice B a' b', .int .i64 size, .int .i64 en] 66)).cell? ⟨w.heap.size, 4, none⟩ = some (.int .i64 en) := by simp
  have H1 := Lib.hid (h.below B1.out)
  have S1 := Lib.hid (DStep.below (p := p) (cs := cs) B1.out hbs)
  have HQ := Lib.hid (hq.below B1.out)
  have HK := Lib.hid hk
  obtain ⟨c0, c1, _⟩ := HQ.out.cells
  clear h hk hq
  unfold keptV
  have D1 : Hid (∀ W : World, Below W.heap.size W W.drew) := Lib.hid fun W => (Below.refl _ W).drew
  by_cases hlt : en < size
  · have HE : Hid (mendR d f en size = if (cutR d f en).2 = 0 then syncR (cutR d f en).1 f else cutR d f en) := Lib.hid (if_pos hlt)
    go_enter Tryd.func36, Tryd.ntmps36
    go_wp2_with fail
    generalize hw1 : w.alloc (.cells #[.int .i64 k0, .slice A a b, .slice B a' b', .int .i64 size, .int .i64 en] 66) = w1 at *
    clear hw1 e3
    go_still_tail 10, (by kernel_rfl)
    have HC := Lib.hid (trunc_any H1.out.drewd (HK.out.fit hS (by omega)) f en (by omega))
    have S2 := Lib.hid (S1.out.drewd)
    have HQ2 := Lib.hid (HQ.out.below (D1.out w1))
    have HKC := Lib.hid (HK.out.cut f en)
    change wpList _ _ _ _ _ w1.drew
    generalize w1.drew = w2 at *
    clear e4 c0 c1
    by_cases h0 : (cutR d f en).2 = 0
    · have HE := Lib.hid (HE.out.trans (if_pos h0))
      rw [h0] at HC
      clear h0
      generalize (cutR d f en).1 = d1 at HC HE HKC
      go_wp2_with fail
      refine HC.out.mono ?_
      rintro e w3 ⟨rfl, cs3, h3, s3⟩
      have HS := Lib.hid (sync_any h3.drewd ((HKC.out.fit hS (by omega))) f)
      have S3 := Lib.hid (S2.out.trans s3).drewd
      have HQ3 := Lib.hid (HQ2.out.kept s3.keep hnq)
      obtain ⟨c0, c1, _⟩ := HQ3.out.cells
      clear h3 s3
      go_wp2_with fail
      go_still_tail 8, (by kernel_rfl)
      change wpList _ _ _ _ _ w3.drew
      generalize w3.drew = w4 at HS S3 ⊢
      clear c0 c1
      go_wp2_with fail
      refine HS.out.mono ?_
      rintro e w5 hret
      have HRt := Lib.hid (RetD.from S3.out hret)
      obtain ⟨rfl, _⟩ := hret
      go_wp2
      go_ret
      rw [HE.out]
      exact HRt.out
    · have HE := Lib.hid (HE.out.trans (if_neg h0))
      have hb2 : ((cutR d f en).2 == 0) = false := beq_eq_false_iff_ne.2 h0
      have hb3 : ((cutR d f en).2 != 0) = true := by simp [h0]
      clear h0
      generalize cutR d f en = r at *
      go_wp2_with fail
      refine HC.out.mono ?_
      rintro e w3 hret
      have HRt := Lib.hid (RetD.from S2.out hret)
      obtain ⟨rfl, _⟩ := hret
      go_wp2
      go_ret
      rw [HE.out]
      exact HRt.out
  · have HE : Hid (mendR d f en size = syncR d f) := Lib.hid (if_neg hlt)
    have HS := Lib.hid (sync_any H1.out.drewd (HK.out.fit hS (by omega)) f)
    have S3 := Lib.hid S1.out.drewd
    go_enter Tryd.func36, Tryd.ntmps36
    go_wp2_with fail
    generalize hw1 : w.alloc (.cells #[.int .i64 k0, .slice A a b, .slice B a' b', .int .i64 size, .int .i64 en] 66) = w1 at *
    clear hw1 e3 e4
    go_still_tail 8, (by kernel_rfl)
    change wpList _ _ _ _ _ w1.drew
    generalize w1.drew = w4 at HS S3 ⊢
    clear c0 c1
    go_wp2_with fail
    refine HS.out.mono ?_
    rintro e w5 hret
    have HRt := Lib.hid (RetD.from S3.out hret)
    obtain ⟨rfl, _⟩ := hret
    go_wp2
    go_ret
    rw [HE.out]
    exact HRt.out
end Go.Proofs.YtfinaikgikifcaaDoor.vaultw
/- What a vault finds in a file: plain Lean. -/
namespace Go.Proofs.YtfinaikgikifcaaDoor.vaultp
open Go.RowKit Go.Shelf Go.Proofs.YtfinaikgikifcaaDoorW.PrintWords Go.Proofs.YtfinaikgikifcaaDoor.base Go.Proofs.YtfinaikgikifcaaDoor.mem Go.Proofs.YtfinaikgikifcaaDoor.samew Go.Proofs.YtfinaikgikifcaaDoor.framep Go.Proofs.YtfinaikgikifcaaDoor.frameit Go.Proofs.YtfinaikgikifcaaDoor.framem Go.Proofs.YtfinaikgikifcaaDoor.framel Go.Proofs.YtfinaikgikifcaaDoor.framea Go.Proofs.YtfinaikgikifcaaDoor.framer Go.Proofs.YtfinaikgikifcaaDoor.framen Go.Proofs.YtfinaikgikifcaaDoor.diskp Go.Proofs.YtfinaikgikifcaaDoor.diskr Go.Proofs.YtfinaikgikifcaaDoor.diskw

/-- the number of the first k bytes, the lowest first -/
def leP (xs : List Int) : Nat → Int
  | 0 => 0
  | k + 1 => leP xs k + 256 ^ k * xs.getD k 0
def leN (xs : List Int) : Int := leP xs 8
theorem leP_range {xs : List Int} (h : By xs) : ∀ k, 0 ≤ leP xs k ∧ leP xs k < 256 ^ k
  | 0 => ⟨by simp [leP], by simp [leP]⟩
  | k + 1 => by
    obtain ⟨h0, h1⟩ := leP_range h k
    obtain ⟨b0, b1⟩ := By.getD h k
    have hpos : (0 : Int) < 256 ^ k := Int.pow_pos (by decide)
    have e0 : 0 ≤ 256 ^ k * xs.getD k 0 := Int.mul_nonneg (Int.le_of_lt hpos) b0
    have e1 : 256 ^ k * xs.getD k 0 ≤ 256 ^ k * 255 := Int.mul_le_mul_of_nonneg_left b1 (Int.le_of_lt hpos)
    rw [Int.pow_succ]
    unfold leP
    omega
theorem or_sh (x b : Int) (i : Nat) (hi : i < 8) (hx0 : 0 ≤ x) (hx : x < 256 ^ i) (hb0 : 0 ≤ b) (hb : b ≤ 255) :
    Go.bits .or .u64 x (IntKind.u64.wrap (b * 2 ^ (8 * i))) = x + 256 ^ i * b := by
  have wr : ∀ n : Int, 0 ≤ n → n < 2 ^ 64 → IntKind.u64.wrap n = n := fun n h0 h1 => by rw [IntKind.wrap_u64]; omega
  have ep : (256 : Int) ^ i = 2 ^ (8 * i) := by rw [show (256 : Int) = 2 ^ 8 from rfl, ← Int.pow_mul]
  have hp : (2 : Int) ^ (8 * i) ≤ 2 ^ 56 := by
    have := Nat.pow_le_pow_right (n := 2) (by decide) (show 8 * i ≤ 56 by omega)
    exact_mod_cast this
  have hpos : (0 : Int) < 2 ^ (8 * i) := Int.pow_pos (by decide)
  have hy0 : 0 ≤ b * 2 ^ (8 * i) := Int.mul_nonneg hb0 (Int.le_of_lt hpos)
  have hy1 : b * 2 ^ (8 * i) ≤ 255 * 2 ^ 56 := Int.mul_le_mul hb hp (Int.le_of_lt hpos) (by decide)
  rw [wr _ hy0 (by omega), Int.mul_comm (256 ^ i) b, ep]
  have hx2 : x < 2 ^ (8 * i) := by rw [← ep]; exact hx
  have key := bits_join .u64 64 (by decide) wr (8 * i) (b * 2 ^ (8 * i)) x hy0 (by exact Int.mul_emod_left _ _) (by omega) hx0 hx2 (by omega)
  have comm : Go.bits .or .u64 x (b * 2 ^ (8 * i)) = Go.bits .or .u64 (b * 2 ^ (8 * i)) x := by
    unfold Go.bits
    simp only [BitVec.or_comm]
  rw [comm, key, Int.add_comm]
/-- a first frame's payload counts -/
def goodP (p : List Int) : Prop := 8 ≤ p.length ∧ 1 ≤ leN p ∧ leN p ≤ 4611686018427387904
instance (p : List Int) : Decidable (goodP p) := inferInstanceAs (Decidable (_ ∧ _))
/-- generation, snapshot, records of these payloads -/
def lookP : List (List Int) → Int × List Int × List (List Int)
  | [] => (0, [], [])
  | p :: r => if goodP p then (leN p, p.drop 8, r) else (0, [], [])
theorem lookP_good {p : List Int} (r : List (List Int)) (h : goodP p) : lookP (p :: r) = (leN p, p.drop 8, r) := if_pos h
theorem lookP_bad {p : List Int} (r : List (List Int)) (h : ¬ goodP p) : lookP (p :: r) = (0, [], []) := if_neg h
def lookF (xs : List Int) : Int × List Int × List (List Int) := lookP (P xs)
theorem lookP_range {ps : List (List Int)} : 0 ≤ (lookP ps).1 ∧ (lookP ps).1 ≤ 4611686018427387904 := by
  cases ps with
  | nil => exact ⟨by simp [lookP], by simp [lookP]⟩
  | cons p r =>
    by_cases h : goodP p
    · rw [lookP_good r h]; exact ⟨by have := h.2.1; dsimp only; omega, h.2.2⟩
    · rw [lookP_bad r h]; exact ⟨by simp, by simp⟩
end Go.Proofs.YtfinaikgikifcaaDoor.vaultp
/- What stays of one's own slices of bytes while some of them are turned. -/
namespace Go.Proofs.YtfinaikgikifcaaDoor.framek
open Go.RowKit Go.Shelf Go.Proofs.YtfinaikgikifcaaDoorW.PrintWords Go.Proofs.YtfinaikgikifcaaDoor.base Go.Proofs.YtfinaikgikifcaaDoor.mem Go.Proofs.YtfinaikgikifcaaDoor.samew Go.Proofs.YtfinaikgikifcaaDoor.keep Go.Proofs.YtfinaikgikifcaaDoor.framea

theorem OwV.keptB {w w' : World} {base n c : Nat} {A : Option Addr} {cells : List Value} (h : OwV w base A n c cells) {b m c' : Nat} {a : Option Addr} {ys : List Int} (hb : OwB w b a m c' ys) {row : Option Nat} (hg : w.grownBy w' row) (hr : ∀ g, row = some g → (Value.slice a m c').ownBlock = some g) : OwV w' base A n c cells := by
  refine World.ownsRow.kept h hg ?_
  rcases h.2 with ⟨hv, _⟩ | ⟨g, cap, cur, hv, _, hb', _, _, _⟩
  · rw [hv]; exact .inl rfl
  · rw [hv]
    refine .inr fun e => ?_
    have hr' := hr g e.symm
    rcases hb.1.2 with ⟨hv2, _⟩ | ⟨g', cap', cur', hv2, _, hb2, _⟩
    · rw [hv2] at hr'; cases hr'
    · rw [hv2] at hr'
      cases hr'
      rw [hb'] at hb2
      injection hb2 with hb2
      injection hb2 with _ e2 _
      revert e2
      decide
theorem OwV.at_ {w : World} {base n c g : Nat} {cells : List Value} (h : OwV w base (some ⟨g, 0, none⟩) n c cells) (i : Nat) {v : Value} (hv : cells[i]? = some v) : w.cell? ⟨g, i, none⟩ = some v ∧ w.frozen? ⟨g, i, none⟩ = false :=
  ⟨by have := World.ownsRow.cells h (g := g) rfl i _ hv; rwa [add_plain] at this, World.ownsRow.frozenAt h i⟩
theorem OwV.store {w : World} {base n c g : Nat} {cells : List Value} (h : OwV w base (some ⟨g, 0, none⟩) n c cells) (i : Nat) (v : Value) : OwV (w.setCell ⟨g, i, none⟩ v) base (some ⟨g, 0, none⟩) n c (cells.set i v) := (World.ownsRow.stored h i v).1
theorem OwV.blk {w : World} {base n c : Nat} {A : Option Addr} {cells : List Value} (h : OwV w base A n c cells) : ∀ j, (Value.slice A n c).ownBlock = some j → base ≤ j ∧ j < w.heap.size := by
  intro j hj
  rcases h.2 with ⟨hv, _⟩ | ⟨g, cap, cur, hv, hb, hh, _⟩
  · rw [hv] at hj; cases hj
  · rw [hv] at hj; cases hj
    exact ⟨hb, (Array.getElem?_eq_some_iff.1 hh).1⟩
theorem OwV.form {w : World} {base n c : Nat} {A : Option Addr} {cells : List Value} (h : OwV w base A n c cells) (hn : 0 < n) : ∃ g, A = some ⟨g, 0, none⟩ := by
  obtain ⟨g, cap, hv, _, _⟩ := World.ownsRow.form h hn
  injection hv with h1
  exact ⟨g, h1⟩
/-- no two of the rows in one block -/
def Apart (cells : List Value) : Prop := ∀ (i j g : Nat) (a : Option Addr) (m c : Nat) (a' : Option Addr) (m' c' : Nat), cells[i]? = some (Value.slice a m c) → cells[j]? = some (Value.slice a' m' c') → (Value.slice a m c).ownBlock = some g → (Value.slice a' m' c').ownBlock = some g → i = j
/-- the rows from k on stand as they were -/
structure RK (W : World) (base k : Nat) (cells cells3 : List Value) (xss : List (List Int)) : Prop where
  same : ∀ i, k ≤ i → cells[i]? = cells3[i]?
  own : ∀ i, k ≤ i → i < xss.length → ∃ a m c, cells3[i]? = some (.slice a m c) ∧ OwB W base a m c (xss.getD i [])
section
variable {W W' : World} {base k : Nat} {cells cells3 : List Value} {xss : List (List Int)}
theorem RK.of (h : Rws W base cells xss) : RK W base 0 cells cells xss := ⟨fun _ _ => rfl, fun i _ hi => h.at_ i hi⟩
theorem RK.map (h : RK W base k cells cells3 xss) (hw : ∀ a m c ys, OwB W base a m c ys → OwB W' base a m c ys) : RK W' base k cells cells3 xss :=
  ⟨h.same, fun i h1 h2 => by obtain ⟨a, m, c, e, ho⟩ := h.own i h1 h2; exact ⟨a, m, c, e, hw _ _ _ _ ho⟩⟩
theorem RK.below (h : RK W base k cells cells3 xss) (hb : Below W.heap.size W W') : RK W' base k cells cells3 xss := h.map fun _ _ _ _ ho => ho.below hb
theorem RK.next (h : RK W base k cells cells3 xss) : RK W base (k + 1) cells cells3 xss := ⟨fun i hi => h.same i (by omega), fun i hi => h.own i (by omega)⟩
theorem RK.put (h : RK W base (k + 1) cells cells3 xss) (v : Value) : RK W base (k + 1) (cells.set k v) cells3 xss :=
  ⟨fun i hi => by rw [List.getElem?_set_ne (by omega)]; exact h.same i hi, h.own⟩
theorem RK.grown (h : RK W base (k + 1) cells cells3 xss) (hap : Apart cells3) {a : Option Addr} {m c : Nat} (he : cells3[k]? = some (.slice a m c)) {row : Option Nat} (hg : W.grownBy W' row) (hr : ∀ g, row = some g → (Value.slice a m c).ownBlock = some g) : RK W' base (k + 1) cells cells3 xss :=
  ⟨h.same, fun i h1 h2 => by
    obtain ⟨a', m', c', e, ho⟩ := h.own i h1 h2
    refine ⟨a', m', c', e, OwB.keptN ho hg fun j hj hrow => ?_⟩
    have := hap k i j _ _ _ _ _ _ he e (hr j hrow) hj
    omega⟩
theorem RK.set (h : RK W base (k + 1) cells cells3 xss) (hap : Apart cells3) {g m c : Nat} (he : cells3[k]? = some (.slice (some ⟨g, 0, none⟩) m c)) (i : Nat) (v : Value) : RK (W.setCell ⟨g, i, none⟩ v) base (k + 1) cells cells3 xss :=
  h.grown hap he (grownBy_set W g i v) fun g' e => by cases e; rfl
theorem RK.head {b n c g : Nat} {cs : List Value} (h : RK W base k cells cells3 xss) (ho : OwV W b (some ⟨g, 0, none⟩) n c cs) (i : Nat) (v : Value) : RK (W.setCell ⟨g, i, none⟩ v) base k cells cells3 xss :=
  h.map fun a m c ys hb => OwB.keptT hb (grownBy_set W g i v) fun r e => by cases e; exact OwV.row ho g rfl
end
theorem OwB.head {W : World} {base b n c g : Nat} {A : Option Addr} {m c' : Nat} {ys : List Int} {cs : List Value} (h : OwB W base A m c' ys) (ho : OwV W b (some ⟨g, 0, none⟩) n c cs) (i : Nat) (v : Value) : OwB (W.setCell ⟨g, i, none⟩ v) base A m c' ys :=
  OwB.keptT h (grownBy_set W g i v) fun r e => by cases e; exact OwV.row ho g rfl
end Go.Proofs.YtfinaikgikifcaaDoor.framek
