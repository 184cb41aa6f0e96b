/- What frames are as bytes: plain laws. -/
import Derived.Test.YtjebmlfcdnpepaaDoorCrcParts
import Derived.Lib.EndianBits
set_option linter.unusedVariables false
set_option linter.unusedSimpArgs false
namespace Go.Proofs.YtjebmlfcdnpepaaDoor.framep
open Go.RowKit Go.Proofs.YtjebmlfcdnpepaaDoorW.PrintWords Go.Proofs.YtjebmlfcdnpepaaDoor.base Go.Proofs.YtjebmlfcdnpepaaDoor.crcp Go.Proofs.YtjebmlfcdnpepaaDoor.crcw

/-- the word of four bytes, the lowest first -/
def w4 (xs : List Int) : Int := xs.getD 0 0 + xs.getD 1 0 * 256 + xs.getD 2 0 * 65536 + xs.getD 3 0 * 16777216
/-- a word's four bytes -/
def le4 (S : Int) : List Int := [S % 256, S / 256 % 256, S / 65536 % 256, S / 16777216]
theorem By_le4 {S : Int} (h : U32 S) : By (le4 S) := By_of _ fun z hz => by
  obtain ⟨h0, h1⟩ := h
  simp [le4] at hz
  omega
theorem w4_le4 {S : Int} (h : U32 S) (r : List Int) : w4 (le4 S ++ r) = S := by
  obtain ⟨h0, h1⟩ := h
  simp [w4, le4]
  omega
theorem By.getD {xs : List Int} (h : By xs) (i : Nat) : 0 ≤ xs.getD i 0 ∧ xs.getD i 0 ≤ 255 := by
  rw [List.getD_eq_getElem?_getD]
  rcases Nat.lt_or_ge i xs.length with hi | hi
  · rw [List.getElem?_eq_getElem hi]; exact h.mem _ (List.getElem_mem _)
  · rw [List.getElem?_eq_none hi]; simp
theorem w4_range {xs : List Int} (h : By xs) : U32 (w4 xs) := by
  have h0 := By.getD h 0
  have h1 := By.getD h 1
  have h2 := By.getD h 2
  have h3 := By.getD h 3
  unfold w4 U32
  omega
theorem w4_bits {a b c d : Int} (ha : 0 ≤ a ∧ a ≤ 255) (hb : 0 ≤ b ∧ b ≤ 255) (hc : 0 ≤ c ∧ c ≤ 255) (hd : 0 ≤ d ∧ d ≤ 255) :
    Go.bits .or .u32 (Go.bits .or .u32 (Go.bits .or .u32 a (b * 256)) (c * 65536)) (d * 16777216) = a + b * 256 + c * 65536 + d * 16777216 := by
  simp (disch := omega) only [u32_or8, u32_or16, u32_or24]
/-- how many bytes the frame has with which bytes begin; 0: none -/
def firstN (xs : List Int) : Nat := if xs.length < 8 then 0 else if 1048576 < (w4 xs).toNat ∨ xs.length - 8 < (w4 xs).toNat ∨ parts 0 [xs.take 4, (xs.drop 8).take (w4 xs).toNat] ≠ w4 (xs.drop 4) then 0 else 8 + (w4 xs).toNat
end Go.Proofs.YtjebmlfcdnpepaaDoor.framep
