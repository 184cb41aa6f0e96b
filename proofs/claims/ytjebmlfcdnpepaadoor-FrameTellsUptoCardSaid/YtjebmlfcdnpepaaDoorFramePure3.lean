/- A frame of which a byte of the sum or of the payload is turned is none. -/
import Derived.Test.YtjebmlfcdnpepaaDoorFramePure2
import Derived.Test.YtjebmlfcdnpepaaDoorCrcPure2
set_option linter.unusedVariables false
set_option linter.unusedSimpArgs false
namespace Go.Proofs.YtjebmlfcdnpepaaDoor.framen
open Go.RowKit Go.Shelf Go.Proofs.YtjebmlfcdnpepaaDoorW.PrintWords Go.Proofs.YtjebmlfcdnpepaaDoor.base Go.Proofs.YtjebmlfcdnpepaaDoor.mem Go.Proofs.YtjebmlfcdnpepaaDoor.crcp Go.Proofs.YtjebmlfcdnpepaaDoor.crcw Go.Proofs.YtjebmlfcdnpepaaDoor.samew Go.Proofs.YtjebmlfcdnpepaaDoor.keep Go.Proofs.YtjebmlfcdnpepaaDoor.framep Go.Proofs.YtjebmlfcdnpepaaDoor.framew Go.Proofs.YtjebmlfcdnpepaaDoor.frameit Go.Proofs.YtjebmlfcdnpepaaDoor.framem Go.Proofs.YtjebmlfcdnpepaaDoor.framel Go.Proofs.YtjebmlfcdnpepaaDoor.framea Go.Proofs.YtjebmlfcdnpepaaDoor.framer

theorem byt_arg {r x y : W} (h : bytV r x = bytV r y) : x = y := by
  have h1 := bits_inj _ _ _ h
  have := congrArg (r ^^^ ·) h1
  simpa [← BitVec.xor_assoc] using this
theorem add_one {s x y : Int} {a b : List Int} (hx : 0 ≤ x ∧ x ≤ 255) (hy : 0 ≤ y ∧ y ≤ 255) (h : add s (a ++ x :: b) = add s (a ++ y :: b)) : x = y := by
  have h1 := congrArg crcp.V h
  rw [V_add, V_add, List.map_append, List.map_append, List.map_cons, List.map_cons] at h1
  have h2 := BitVec.not_inj.1 h1
  rw [run_append, run_append] at h2
  have h3 : run (bytV (run (~~~ crcp.V s) (a.map crcp.V)) (crcp.V x)) (b.map crcp.V) = run (bytV (run (~~~ crcp.V s) (a.map crcp.V)) (crcp.V y)) (b.map crcp.V) := h2
  have h4 := byt_arg (run_inj _ _ _ h3)
  exact V_inj _ _ ⟨hx.1, by omega⟩ ⟨hy.1, by omega⟩ h4
theorem xr8_turns {x : Int} (hx : 0 ≤ x ∧ x ≤ 255) : xr8 x 85 ≠ x := by
  intro h
  have h1 := congrArg crcp.V h
  rw [V_xr8 _ _ hx ⟨by decide, by decide⟩] at h1
  have h2 := congrArg (crcp.V x ^^^ ·) h1
  simp [← BitVec.xor_assoc] at h2
  revert h2
  decide
theorem set_split {l : List Int} {i : Nat} {y : Int} (h : i < l.length) : l.set i y = l.take i ++ y :: l.drop (i + 1) ∧ l = l.take i ++ l.getD i 0 :: l.drop (i + 1) := by
  refine ⟨List.set_eq_take_append_cons_drop.trans (if_pos h), ?_⟩
  have : l.getD i 0 = l[i] := by simp [List.getD_eq_getElem?_getD, List.getElem?_eq_getElem h]
  rw [this, List.getElem_cons_drop]
  exact (List.take_append_drop i l).symm
theorem turned_none (p more : List Int) (i : Nat) (hp : By p) (h : p.length ≤ 1048576) (hi : i < 4 + p.length) :
    firstN ((fenc p).set (4 + i) (xr8 ((fenc p).getD (4 + i) 0) 85) ++ more) = 0 := by
  obtain ⟨S, hS⟩ : ∃ S, parts 0 [le4 p.length, p] = S := ⟨_, rfl⟩
  have hUS : U32 S := by rw [← hS]; exact U32_parts 0 ⟨by decide, by decide⟩ _
  have hF : fenc p = le4 p.length ++ (le4 S ++ p) := by unfold fenc; rw [hS, List.append_assoc]
  have hBF := By_fenc hp h
  obtain ⟨x, hx⟩ : ∃ x, (fenc p).getD (4 + i) 0 = x := ⟨_, rfl⟩
  have hxb : 0 ≤ x ∧ x ≤ 255 := by rw [← hx]; exact By.getD hBF _
  have hxR : (le4 S ++ p).getD i 0 = x := by 
    have e : (le4 p.length ++ (le4 S ++ p))[4 + i]? = (le4 S ++ p)[i]? := by
      rw [List.getElem?_append_right (by rw [le4_len]; omega), le4_len]
      congr 1
      omega
    rw [← hx, hF, List.getD_eq_getElem?_getD, List.getD_eq_getElem?_getD, e]
  rw [hx]
  have hy := xr8_turns hxb
  have hyb := xr8_r x 85
  generalize xr8 x 85 = y at hy hyb
  have hT : (fenc p).set (4 + i) y = le4 p.length ++ (le4 S ++ p).set i y := by
    rw [hF, List.set_append_right _ _ (by rw [le4_len]; omega), le4_len]
    congr 2
    omega
  rw [hT]
  obtain ⟨q, t, hq, ht, hR, hne⟩ : ∃ q t, q.length = p.length ∧ t.length = 4 ∧ (le4 S ++ p).set i y = t ++ q ∧ parts 0 [le4 p.length, q] ≠ w4 (t ++ (q ++ more)) := by
    by_cases h4 : i < 4
    · refine ⟨p, (le4 S).set i y, rfl, by simp [le4_len], by rw [List.set_append_left _ _ (by rw [le4_len]; exact h4)], ?_⟩
      rw [hS]
      intro e
      have hby : By ((le4 S).set i y) := By_of _ fun z hz => by
        rcases List.mem_or_eq_of_mem_set hz with h1 | h1
        · exact (By_le4 hUS).mem z h1
        · rw [h1]; exact hyb
      have ew : w4 ((le4 S).set i y ++ (p ++ more)) = w4 ((le4 S).set i y) := by
        have := w4_take (xs := (le4 S).set i y ++ (p ++ more)) (k := 4) (by omega)
        rw [List.take_left' (by simp [le4_len])] at this
        exact this.symm
      rw [ew] at e
      have e2 := le4_w4 hby (by simp [le4_len])
      rw [← e, List.take_of_length_le (by simp [le4_len])] at e2
      have e3 := congrArg (fun l => l.getD i 0) e2
      have e4 : (le4 S).getD i 0 = x := by rw [← hxR, List.getD_eq_getElem?_getD, List.getD_eq_getElem?_getD, List.getElem?_append_left (by rw [le4_len]; exact h4)]
      have e5 : ((le4 S).set i y).getD i 0 = y := by simp [List.getD_eq_getElem?_getD, le4_len, h4]
      simp only [e4, e5] at e3
      exact hy e3.symm
    · have hil : i - 4 < p.length := by omega
      refine ⟨p.set (i - 4) y, le4 S, by simp, rfl, by rw [List.set_append_right _ _ (by rw [le4_len]; omega), le4_len], ?_⟩
      rw [w4_le4 hUS, ← hS, parts2, parts2]
      intro e
      obtain ⟨e1, e2⟩ := set_split (y := y) hil
      have e3 : p.getD (i - 4) 0 = x := by rw [← hxR, List.getD_eq_getElem?_getD, List.getD_eq_getElem?_getD, List.getElem?_append_right (by rw [le4_len]; omega), le4_len]
      rw [e3] at e2
      rw [e1, e2] at e
      rw [← e2] at e
      have e4 : add 0 ((le4 p.length ++ p.take (i - 4)) ++ y :: p.drop (i - 4 + 1)) = add 0 ((le4 p.length ++ p.take (i - 4)) ++ x :: p.drop (i - 4 + 1)) := by
        rw [List.append_assoc, List.append_assoc, ← e2]
        exact e
      exact hy (add_one hyb hxb e4)
  rw [hR, List.append_assoc, List.append_assoc]
  unfold firstN
  have l1 : w4 (le4 p.length ++ (t ++ (q ++ more))) = p.length := w4_le4 (U32_len h) _
  have l2 : (le4 (p.length : Int) ++ (t ++ (q ++ more))).take 4 = le4 p.length := rfl
  have l3 : (le4 (p.length : Int) ++ (t ++ (q ++ more))).drop 4 = t ++ (q ++ more) := rfl
  have l4 : (le4 (p.length : Int) ++ (t ++ (q ++ more))).drop 8 = q ++ more := by
    rw [show (8 : Nat) = 4 + 4 from rfl, ← List.drop_drop, l3, List.drop_left' ht]
  rw [l1, l2, l3, l4, Int.toNat_natCast, ← hq, List.take_left, hq]
  split
  · rfl
  · rw [if_pos (.inr (.inr hne))]
end Go.Proofs.YtjebmlfcdnpepaaDoor.framen
