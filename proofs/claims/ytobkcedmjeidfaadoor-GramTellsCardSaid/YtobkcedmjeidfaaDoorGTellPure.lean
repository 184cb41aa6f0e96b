/- A datagram's bytes of which up to four neighbouring ones are turned: plain laws. -/
import Derived.Test.YtobkcedmjeidfaaDoorGDecPure
import Derived.Test.YtobkcedmjeidfaaDoorCrcPure2
set_option linter.unusedVariables false
set_option linter.unusedSimpArgs false
namespace Go.Proofs.YtobkcedmjeidfaaDoor.gtake
open Go.RowKit Go.Proofs.YtobkcedmjeidfaaDoorW.PrintWords Go.Proofs.YtobkcedmjeidfaaDoor.base Go.Proofs.YtobkcedmjeidfaaDoor.gramp Go.Proofs.YtobkcedmjeidfaaDoor.gramw Go.Proofs.YtobkcedmjeidfaaDoor.crcp

theorem split8 (a : Nat) : BitVec.ofNat 32 a = BitVec.ofNat 32 (a % 256) ^^^ (BitVec.ofNat 32 (a / 256) <<< 8) := by
  apply BitVec.eq_of_getLsbD_eq
  intro i hi
  rw [show (256 : Nat) = 2 ^ 8 from rfl]
  simp only [BitVec.getLsbD_xor, BitVec.getLsbD_shiftLeft, BitVec.getLsbD_ofNat, Nat.testBit_mod_two_pow, Nat.testBit_div_two_pow]
  by_cases h : i < 8
  · simp [h, hi]
  · have e : i - 8 + 8 = i := by omega
    have h2 : i - 8 < 32 := by omega
    simp [h, hi, h2, e]
theorem step8 (R : BitVec 32) (a : Nat) (ha : a / 256 < 16777216) : crcp.bits 8 (R ^^^ BitVec.ofNat 32 a) = bytV R (BitVec.ofNat 32 (a % 256)) ^^^ BitVec.ofNat 32 (a / 256) := by
  rw [split8 a, ← BitVec.xor_assoc, bits_xor, bits_shift _ (by rw [BitVec.toNat_ofNat, Nat.mod_eq_of_lt (by omega)]; exact ha)]
  rfl
theorem run4 (R : BitVec 32) (a : Nat) (ha : a < 4294967296) : run R ((le4 (a : Int)).map V) = crcp.bits 32 (R ^^^ BitVec.ofNat 32 a) := by
  have e1 : crcp.bits 32 (R ^^^ BitVec.ofNat 32 a) = crcp.bits 8 (crcp.bits 8 (crcp.bits 8 (crcp.bits 8 (R ^^^ BitVec.ofNat 32 a)))) := by
    rw [← bits_add, ← bits_add, ← bits_add]
  rw [e1, step8 R a (by omega), step8 _ (a / 256) (by omega), step8 _ (a / 256 / 256) (by omega), step8 _ (a / 256 / 256 / 256) (by omega)]
  have e2 : a / 256 / 256 / 256 / 256 = 0 := by omega
  rw [e2, BitVec.xor_zero]
  have l0 : V ((a : Int) % 256) = BitVec.ofNat 32 (a % 256) := by rw [← V_nat]; congr 1
  have l1 : V ((a : Int) / 256 % 256) = BitVec.ofNat 32 (a / 256 % 256) := by rw [← V_nat]; congr 1
  have l2 : V ((a : Int) / 65536 % 256) = BitVec.ofNat 32 (a / 256 / 256 % 256) := by rw [← V_nat]; congr 1; omega
  have l3 : V ((a : Int) / 16777216) = BitVec.ofNat 32 (a / 256 / 256 / 256 % 256) := by rw [← V_nat]; congr 1; omega
  simp only [le4, List.map_cons, List.map_nil, l0, l1, l2, l3]
  rfl
/-- the sum over bytes with their own sum behind is always the same -/
theorem residue (E : List Int) : V (add 0 (full E)) = ~~~ crcp.bits 32 (BitVec.allOnes 32) := by
  have hU := U32_addE E
  obtain ⟨a, ha⟩ := Int.eq_ofNat_of_zero_le hU.1
  have ha2 : a < 4294967296 := by have := hU.2; omega
  have e : V (add 0 E) = BitVec.ofNat 32 a := by rw [ha, V_nat]
  rw [V_add] at e
  unfold full
  rw [V_add, List.map_append, run_append, ha, run4 _ a ha2, ← e]
  congr 2
  apply BitVec.eq_of_getLsbD_eq
  intro i hi
  simp only [BitVec.getLsbD_xor, BitVec.getLsbD_not, BitVec.getLsbD_allOnes]
  simp [hi]
theorem residue_eq (E F : List Int) : add 0 (full E) = add 0 (full F) := V_inj _ _ (U32_addE _) (U32_addE _) (by rw [residue, residue])
theorem turned_sum {E cs ms : List Int} {a : Int} (hE : By (full E)) (hm : By ms) (h : Turned (full E) a ms 4 cs true) : decG cs = (noG, 32) := by
  have hl := h.len
  rw [full_len] at hl
  have hb := h.by_ hE
  refine dec_sum hl fun e => ?_
  have ht := tells (full E) cs a ms true hE hm h
  have hc : full (cs.take E.length) = cs := by
    unfold full
    rw [← e, le4_w4 (hb.drop _) (by rw [List.length_drop]; omega), List.take_append_drop]
  have := residue_eq E (cs.take E.length)
  rw [hc] at this
  rw [this] at ht
  simp at ht
theorem turned_same {E cs ms : List Int} {a : Int} (hE : By (full E)) (hm : ms.length = 4) (h : Turned (full E) a ms 4 cs false) : cs = full E := by
  apply List.ext_getElem h.len
  intro j h1 h2
  have ha := h.at_ j h2
  have hu := h.u
  have e : msk 4 a ms j = 0 := by
    unfold msk
    by_cases c : 0 ≤ a ∧ a ≤ j ∧ (j : Int) < a + 4
    · rw [if_pos (by omega)]
      by_cases h0 : ms.getD ((j : Int) - a).toNat 0 = 0
      · exact h0
      · have := (unl_iff (full E).length a ms 4).2 ⟨((j : Int) - a).toNat, by omega, by omega, by omega, h0⟩
        rw [← hu] at this
        cases this
    · rw [if_neg (by omega)]
  rw [e, xr8_zero _ (hE j)] at ha
  simpa [List.getD_eq_getElem?_getD, h1, h2] using ha
theorem By_full {E : List Int} (h : By E) : By (full E) := h.append (By_le4 (U32_addE E))
end Go.Proofs.YtobkcedmjeidfaaDoor.gtake
