/- What a call leaves of what is safe: plain Lean. -/
import Derived.Test.YtbmdglbhmianjaaDiskFilesP
set_option linter.unusedVariables false
set_option linter.unusedSimpArgs false
namespace Go.Proofs.Ytbmdglbhmianjaa.safep
open Go.RowKit Go.Proofs.YtbmdglbhmianjaaW.PrintWords Go.Proofs.Ytbmdglbhmianjaa.base Go.Proofs.Ytbmdglbhmianjaa.mem Go.Proofs.Ytbmdglbhmianjaa.diskp Go.Proofs.Ytbmdglbhmianjaa.diskr Go.Proofs.Ytbmdglbhmianjaa.diskw

theorem off_b0 (d : D) (k : Int) : ∃ t, (offD d k).b 0 = d.b 0 ++ (d.b 1).take t := by
  unfold offD
  split
  · exact ⟨0, by simp⟩
  · exact ⟨stay k (d.b 1), by simp [offF, upd]⟩
theorem raw_b (d : D) : (rawD d).1.b = d.b := by
  unfold rawD
  split <;> rfl
theorem gone_b0 (d : D) : ∃ t, (gone d).b 0 = d.b 0 ++ (d.b 1).take t := by
  unfold gone
  split
  · obtain ⟨t, h⟩ := off_b0 (rawD d).1 d.k
    exact ⟨t, by rw [h, raw_b]⟩
  · exact ⟨0, by rw [raw_b]; simp⟩
/-- what is safe behind a call -/
structure Stays (d d' : D) (zs : List Int) : Prop where
  pre : ∃ t, d'.b 0 = d.b 0 ++ t
  on : d.off = false → ∃ t, d.b 0 ++ d.b 1 ++ zs = d'.b 0 ++ t
  off : d.off = true → d'.b 0 = d.b 0
theorem Stays.same {d d' : D} {zs : List Int} (h : d'.b 0 = d.b 0) : Stays d d' zs := ⟨⟨[], by simp [h]⟩, fun _ => ⟨d.b 1 ++ zs, by simp [h]⟩, fun _ => h⟩
theorem Stays.part {d d' : D} {ys zs : List Int} {u : Nat} (h : d'.b 0 = d.b 0 ++ (d.b 1 ++ ys).take u) (hz : ys = zs) (ho : d.off = false) : Stays d d' zs :=
  ⟨⟨_, h⟩, fun _ => ⟨(d.b 1 ++ zs).drop u, by rw [h, hz, List.append_assoc, List.append_assoc, List.take_append_drop]⟩, fun e => by rw [ho] at e; cases e⟩
theorem rdy_on {d : D} {f : Int} (h : rdy d f = 0) : d.off = false ∧ (f = 0 ∨ f = 1) := by
  obtain ⟨i, rfl, hi, ho⟩ := rdy_ok h
  exact ⟨ho, by omega⟩
theorem stays (d : D) (kd f n k : Int) (ys : List Int) (h2 : kd ≠ 2) : Stays d (doR d kd f n k ys).1 (if kd = 0 ∧ f = 0 then ys else []) := by
  unfold doR
  split
  · rename_i h0
    subst h0
    unfold appR
    split
    · exact Stays.same rfl
    · rename_i hr
      obtain ⟨ho, hf⟩ := rdy_on (Decidable.of_not_not hr)
      rcases hf with rfl | rfl
      · obtain ⟨t, h⟩ := gone_b0 (putB d 1 (d.b 1 ++ ys))
        refine Stays.part (u := t) (ys := ys) ?_ rfl ho
        show (gone (putB d 1 (d.b 1 ++ ys))).b 0 = _
        rw [h]
        simp [putB, upd]
      · obtain ⟨t, h⟩ := gone_b0 (putB d 3 (d.b 3 ++ ys))
        refine Stays.part (u := t) (ys := []) ?_ rfl ho
        show (gone (putB d 3 (d.b 3 ++ ys))).b 0 = _
        rw [h]
        simp [putB, upd]
  split
  · rw [if_neg (by omega)]
    unfold syncR
    split
    · exact Stays.same rfl
    · rename_i hr
      obtain ⟨ho, hf⟩ := rdy_on (Decidable.of_not_not hr)
      unfold syncD
      split
      · obtain ⟨t, h⟩ := gone_b0 d
        exact Stays.part (u := t) (ys := []) (by rw [List.append_nil]; exact h) rfl ho
      · rename_i hq
        have hg : gone d = (rawD d).1 := by unfold gone; rw [if_neg hq]
        have hb : (gone d).b = d.b := by rw [hg, raw_b]
        rcases hf with rfl | rfl
        · refine Stays.part (u := (d.b 1).length) (ys := []) ?_ rfl ho
          show (syncB (gone d) 0).b 0 = _
          simp [syncB, putB, upd, hb]
        · refine Stays.same ?_
          show (syncB (gone d) 1).b 0 = _
          simp [syncB, putB, upd, hb]
  split
  · exact Stays.same rfl
  split
  · rw [if_neg (by omega)]
    cases ho : d.off
    · obtain ⟨t, h⟩ := off_b0 d k
      exact Stays.part (u := t) (ys := []) (by rw [List.append_nil]; exact h) rfl ho
    · refine Stays.same ?_
      show (offD d k).b 0 = _
      unfold offD
      rw [if_pos ho]
  split
  · exact Stays.same rfl
  split
  · exact Stays.same rfl
  · exact Stays.same rfl
end Go.Proofs.Ytbmdglbhmianjaa.safep
