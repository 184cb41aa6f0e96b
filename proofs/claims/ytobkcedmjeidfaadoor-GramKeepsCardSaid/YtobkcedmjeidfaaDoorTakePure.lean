/- What Take and Fault compute: plain Lean. -/
import Derived.Test.YtobkcedmjeidfaaDoorWirePure2
set_option linter.unusedVariables false
set_option linter.unusedSimpArgs false
namespace Go.Proofs.YtobkcedmjeidfaaDoor.wirep
open Go.RowKit Go.Proofs.YtobkcedmjeidfaaDoorW.PrintWords Go.Proofs.YtobkcedmjeidfaaDoor.base Go.Proofs.YtobkcedmjeidfaaDoor.packp Go.Proofs.YtobkcedmjeidfaaDoor.samew

def small (xs : List Int) : Bool := xs.any fun x => decide (x < 128)
def fault (xs : List Int) : Int := if decide (8 < xs.length) || small xs then 31 else 30
theorem small_take {xs : List Int} {k : Nat} (h : k < xs.length) (hs : small (xs.take k) = false) : small (xs.take (k + 1)) = decide (xs.getD k 0 < 128) := by
  rw [take_snoc xs k h]
  unfold small at *
  rw [List.any_append, hs]
  simp
theorem small_at {xs : List Int} {k : Nat} (h : k < xs.length) (hx : xs.getD k 0 < 128) : small xs = true := by
  unfold small
  rw [List.any_eq_true]
  exact ⟨xs.getD k 0, by simp [List.getD_eq_getElem?_getD, List.getElem?_eq_getElem h], by simpa using hx⟩
theorem fault_small {xs : List Int} (h : small xs = true) : fault xs = 31 := by unfold fault; rw [h]; simp
theorem fault_long {xs : List Int} (h : 8 < xs.length) : fault xs = 31 := by unfold fault; rw [decide_eq_true h]; rfl
theorem fault_short {xs : List Int} (h : ¬ 8 < xs.length) (h2 : small xs = false) : fault xs = 30 := by unfold fault; rw [decide_eq_false h, h2]; rfl

structure Res where
  m : M
  n : Nat
  e : Int
def zeroM : M := ⟨0, 0, 0, 0, 0⟩
def mk (zs : List Int) : M := ⟨zs.getD 0 0, zs.getD 1 0, zs.getD 2 0, zs.getD 3 0, zs.getD 4 0⟩
def more (zs : List Int) : Bool := decide (zs.length < 4) || (zs.length == 4 && zs.getD 0 0 == 4)
def fin (zs : List Int) (at_ : Nat) : Res := if (mk zs).valid then ⟨mk zs, at_, 0⟩ else ⟨zeroM, 0, 31⟩
def res (xs : List Int) : Nat → List Int → Nat → Res
  | 0, zs, at_ => fin zs at_
  | f + 1, zs, at_ => if more zs then (if (dec 0 (xs.drop at_)).2 = 0 then ⟨zeroM, 0, fault (xs.drop at_)⟩ else res xs f (zs ++ [(dec 0 (xs.drop at_)).1]) (at_ + (dec 0 (xs.drop at_)).2)) else fin zs at_
def takeM (xs : List Int) : Res := res xs 5 [] 0
theorem res_short {xs : List Int} {f : Nat} {zs : List Int} {at_ : Nat} (hm : more zs = true) (h : (dec 0 (xs.drop at_)).2 = 0) : res xs (f + 1) zs at_ = ⟨zeroM, 0, fault (xs.drop at_)⟩ := by
  rw [res, if_pos hm, if_pos h]
theorem res_step {xs : List Int} {f : Nat} {zs : List Int} {at_ n : Nat} {x : Int} (hm : more zs = true) (hx : (dec 0 (xs.drop at_)).1 = x) (hn : (dec 0 (xs.drop at_)).2 = n) (h : n ≠ 0) : res xs (f + 1) zs at_ = res xs f (zs ++ [x]) (at_ + n) := by
  rw [res, if_pos hm, if_neg (by rw [hn]; exact h), hx, hn]
theorem res_fin {xs : List Int} {f : Nat} {zs : List Int} {at_ : Nat} (hm : more zs = false) : res xs f zs at_ = fin zs at_ := by
  cases f with
  | zero => rfl
  | succ f => rw [res, if_neg (by rw [hm]; decide)]
theorem fin_good {zs : List Int} {at_ : Nat} (h : (mk zs).valid = true) : fin zs at_ = ⟨mk zs, at_, 0⟩ := by unfold fin; rw [if_pos h]
theorem fin_bad {zs : List Int} {at_ : Nat} (h : (mk zs).valid = false) : fin zs at_ = ⟨zeroM, 0, 31⟩ := by unfold fin; rw [if_neg (by rw [h]; decide)]
end Go.Proofs.YtobkcedmjeidfaaDoor.wirep
