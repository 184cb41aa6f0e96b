/- Stores and appends beside a disk. -/
import Derived.Test.YtbmdglbhmianjaaDiskSafeP
set_option linter.unusedVariables false
set_option linter.unusedSimpArgs false
namespace Go.Proofs.Ytbmdglbhmianjaa.dkeepp
open Go.RowKit Go.Proofs.YtbmdglbhmianjaaW.PrintWords Go.Proofs.Ytbmdglbhmianjaa.base Go.Proofs.Ytbmdglbhmianjaa.mem Go.Proofs.Ytbmdglbhmianjaa.keep Go.Proofs.Ytbmdglbhmianjaa.diskp Go.Proofs.Ytbmdglbhmianjaa.diskr Go.Proofs.Ytbmdglbhmianjaa.diskw

theorem own_apart {w w1 : World} {base p B n c : Nat} {cs cs' : Nat → Sl} {A : Option Addr} {xs : List Int} (h : OwB w B A n c xs) (hB : ∀ g, (Value.slice A n c).ownBlock = some g → ¬ Ft p cs g) (s : DStep w base p cs w1 cs') : OwB w1 B A n c xs := by
  refine ⟨⟨h.1.1, ?_⟩, h.2⟩
  rcases h.1.2 with hv | ⟨g, cap, cur, hv, h1, h2, h3⟩
  · exact .inl hv
  · refine .inr ⟨g, cap, cur, hv, h1, ?_, h3⟩
    rw [s.keep.2 g (hB g (by rw [hv]; rfl)) (Array.getElem?_eq_some_iff.1 h2).1]
    exact h2
theorem at_store {w : World} {base p g : Nat} {cs : Nat → Sl} {d : D} (h : DAt w base p cs d) (hn : ¬ Ft p cs g) (i : Nat) (v : Value) : DAt (w.setCell ⟨g, i, none⟩ v) base p cs d :=
  h.blocks fun g' hg => Below.heap_setCell _ _ _ _ (fun e => hn (by have e1 : g' = g := e; rw [← e1]; exact hg))
theorem at_grown {w w1 : World} {base p : Nat} {cs : Nat → Sl} {d : D} {row : Option Nat} (h : DAt w base p cs d) (hg : w.grownBy w1 row) (hn : ∀ j, row = some j → ¬ Ft p cs j) : DAt w1 base p cs d :=
  h.blocks fun g' hg' => hg.block g' (h.ft hg').2 (fun e => hn g' e.symm hg')
theorem reads_all (xs ys : List Int) : (appR (diskp.load xs ys) 0 ys).2 = 0 ∧ readR (appR (diskp.load xs ys) 0 ys).1 0 = (xs ++ ys, 0) ∧ safeR (appR (diskp.load xs ys) 0 ys).1 1 = ys ∧ readR (diskp.load xs ys) 0 = (xs, 0) ∧ readR (diskp.load xs ys) 1 = (ys, 0) := by
  refine ⟨rfl, rfl, rfl, ?_, ?_⟩
  · show (xs ++ [], (0 : Int)) = _
    rw [List.append_nil]
  · show (ys ++ [], (0 : Int)) = _
    rw [List.append_nil]
end Go.Proofs.Ytbmdglbhmianjaa.dkeepp
