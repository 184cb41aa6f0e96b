/- Frames one behind the other, one of them with a byte turned: plain laws. -/
import Derived.Test.YtjebmlfcdnpepaaDoorFramePure3
set_option linter.unusedVariables false
set_option linter.unusedSimpArgs false
namespace Go.Proofs.YtjebmlfcdnpepaaDoor.framen
open Go.RowKit Go.Shelf Go.Proofs.YtjebmlfcdnpepaaDoorW.PrintWords Go.Proofs.YtjebmlfcdnpepaaDoor.base Go.Proofs.YtjebmlfcdnpepaaDoor.mem Go.Proofs.YtjebmlfcdnpepaaDoor.crcp Go.Proofs.YtjebmlfcdnpepaaDoor.crcw Go.Proofs.YtjebmlfcdnpepaaDoor.samew Go.Proofs.YtjebmlfcdnpepaaDoor.keep Go.Proofs.YtjebmlfcdnpepaaDoor.framep Go.Proofs.YtjebmlfcdnpepaaDoor.framew Go.Proofs.YtjebmlfcdnpepaaDoor.frameit Go.Proofs.YtjebmlfcdnpepaaDoor.framem Go.Proofs.YtjebmlfcdnpepaaDoor.framel Go.Proofs.YtjebmlfcdnpepaaDoor.framea Go.Proofs.YtjebmlfcdnpepaaDoor.framer

/-- a frame of which a byte behind its length is turned -/
def tf (p : List Int) (i : Nat) : List Int := (fenc p).set (4 + i) (xr8 ((fenc p).getD (4 + i) 0) 85)
theorem tf_len (p : List Int) (i : Nat) : (tf p i).length = 8 + p.length := by unfold tf; rw [List.length_set, fenc_len]
/-- the bytes behind k rounds -/
def tellB (xss : List (List Int)) (q i k : Nat) : List Int := if k ≤ q then fencs (xss.take k) else fencs (xss.take q) ++ (tf (xss.getD q []) i ++ fencs ((xss.take k).drop (q + 1)))
theorem tellB_low {xss : List (List Int)} {q i k : Nat} (hk : k < q) (hl : k < xss.length) : tellB xss q i (k + 1) = tellB xss q i k ++ fenc (xss.getD k []) := by
  unfold tellB
  rw [if_pos (by omega), if_pos (by omega), take_snoc2 xss k hl, fencs_snoc]
theorem tellB_at {xss : List (List Int)} {q i : Nat} : tellB xss q i (q + 1) = tellB xss q i q ++ tf (xss.getD q []) i := by
  unfold tellB
  rw [if_neg (by omega), if_pos (Nat.le_refl _), List.drop_eq_nil_of_le (by rw [List.length_take]; omega)]
  simp [fencs]
theorem tellB_high {xss : List (List Int)} {q i k : Nat} (hk : q < k) (hl : k < xss.length) : tellB xss q i (k + 1) = tellB xss q i k ++ fenc (xss.getD k []) := by
  unfold tellB
  rw [if_neg (by omega), if_neg (by omega), take_snoc2 xss k hl, List.drop_append_of_le_length (by rw [List.length_take]; omega), fencs_snoc]
  simp only [List.append_assoc]
theorem tellB_len {xss : List (List Int)} {q i : Nat} : ∀ k, k ≤ xss.length → (tellB xss q i k).length = (fencs (xss.take k)).length := by
  intro k
  induction k with
  | zero => intro _; unfold tellB; rw [if_pos (Nat.zero_le _)]
  | succ k ih =>
    intro hk
    have h1 := ih (by omega)
    rw [take_snoc2 xss k (by omega), fencs_snoc, List.length_append, fenc_len, ← h1]
    rcases Nat.lt_trichotomy k q with h | h | h
    · rw [tellB_low h (by omega), List.length_append, fenc_len]
    · subst h; rw [tellB_at, List.length_append, tf_len]
    · rw [tellB_high h (by omega), List.length_append, fenc_len]
theorem tellB_end {xss : List (List Int)} {q i : Nat} (hq : q < xss.length) (hi : i < 4 + (xss.getD q []).length) (hmax : ∀ p ∈ xss, p.length ≤ 1048576) (hby : By (xss.getD q [])) :
    P (tellB xss q i xss.length) = xss.take q ∧ E (tellB xss q i xss.length) = (fencs (xss.take q)).length := by
  unfold tellB
  rw [if_neg (by omega)]
  have hm : (xss.getD q []).length ≤ 1048576 := hmax _ (by
    rw [List.getD_eq_getElem?_getD, List.getElem?_eq_getElem hq]
    exact List.getElem_mem hq)
  obtain ⟨e1, e2⟩ := P_fencs (xss.take q) (tf (xss.getD q []) i ++ fencs ((xss.take xss.length).drop (q + 1))) (fun p hp => hmax p (List.mem_of_mem_take hp))
  obtain ⟨e3, e4⟩ := P_stop (turned_none (xss.getD q []) (fencs ((xss.take xss.length).drop (q + 1))) i hby hm hi)
  rw [e1, e2]
  unfold tf
  rw [e3, e4]
  simp
/-- where the turned frame begins, or -1 -/
def frm (q : Nat) (L : Int) (k : Nat) : Int := if k ≤ q then -1 else L
theorem frm_low {q k : Nat} {L : Int} (h : k ≤ q) : frm q L k = -1 := if_pos h
theorem frm_high {q k : Nat} {L : Int} (h : q < k) : frm q L k = L := if_neg (by omega)
end Go.Proofs.YtjebmlfcdnpepaaDoor.framen
