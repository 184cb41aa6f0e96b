/- Two disks with the same file 0: plain Lean. -/
import Derived.Test.YtbmdglbhmianjaaScript
set_option linter.unusedVariables false
set_option linter.unusedSimpArgs false
namespace Go.Proofs.Ytbmdglbhmianjaa.filesp
open Go.RowKit Go.Proofs.YtbmdglbhmianjaaW.PrintWords Go.Proofs.Ytbmdglbhmianjaa.base Go.Proofs.Ytbmdglbhmianjaa.mem Go.Proofs.Ytbmdglbhmianjaa.diskp Go.Proofs.Ytbmdglbhmianjaa.diskr Go.Proofs.Ytbmdglbhmianjaa.diskw

/-- the same file 0, the same power, nothing armed -/
structure Rel (d o : D) : Prop where
  s : d.b 0 = o.b 0
  t : d.b 1 = o.b 1
  off : d.off = o.off
  a : d.a = 0
  a' : o.a = 0
theorem Rel.split {P : D → D → Prop} (h : ∀ (b b' : Nat → List Int) (off : Bool) (n n' k k' : Int), b 0 = b' 0 → b 1 = b' 1 → P ⟨b, off, n, 0, k⟩ ⟨b', off, n', 0, k'⟩) (d o : D) (hr : Rel d o) : P d o := by
  obtain ⟨b, off, n, a, k⟩ := d
  obtain ⟨b', off', n', a', k'⟩ := o
  obtain ⟨h0, h1, h2, h3, h4⟩ := hr
  dsimp only at h0 h1 h2 h3 h4
  subst h2 h3 h4
  exact h b b' off n n' k k' h0 h1
theorem app0 (ys : List Int) (d o : D) (hr : Rel d o) : Rel (appR d 0 ys).1 (appR o 0 ys).1 := by
  revert d o
  refine Rel.split fun b b' off n n' k k' h0 h1 => ?_
  cases off
  · refine ⟨?_, ?_, ?_, ?_, ?_⟩ <;> simp [appR, rdy, appD, gone, rawD, putB, upd, h0, h1]
  · exact ⟨h0, h1, rfl, rfl, rfl⟩
theorem sync0 (d o : D) (hr : Rel d o) : Rel (syncR d 0).1 (syncR o 0).1 := by
  revert d o
  refine Rel.split fun b b' off n n' k k' h0 h1 => ?_
  cases off
  · refine ⟨?_, ?_, ?_, ?_, ?_⟩ <;> simp [syncR, rdy, syncD, syncB, gone, rawD, putB, upd, h0, h1]
  · exact ⟨h0, h1, rfl, rfl, rfl⟩
theorem cut0 (m : Int) (d o : D) (hr : Rel d o) : Rel (cutR d 0 m).1 (cutR o 0 m).1 := by
  revert d o
  refine Rel.split fun b b' off n n' k k' h0 h1 => ?_
  have e : fileB ⟨b, off, n, 0, k⟩ 0 = fileB ⟨b', off, n', 0, k'⟩ 0 := by simp [fileB, h0, h1]
  have e0 : ((0 : Int)).toNat = 0 := rfl
  unfold cutR
  rw [e0, e]
  have r : rdy ⟨b, off, n, 0, k⟩ 0 = rdy ⟨b', off, n', 0, k'⟩ 0 := rfl
  rw [r]
  split
  · exact ⟨h0, h1, rfl, rfl, rfl⟩
  split
  · exact ⟨h0, h1, rfl, rfl, rfl⟩
  split
  · exact ⟨h0, h1, rfl, rfl, rfl⟩
  · refine ⟨?_, ?_, ?_, ?_, ?_⟩ <;> simp [cutD, cutB, gone, rawD, putB, upd, h0, h1]
theorem off0 (m : Int) (d o : D) (hr : Rel d o) : Rel (offD d m) (offD o m) := by
  revert d o
  refine Rel.split fun b b' off n n' k k' h0 h1 => ?_
  cases off
  · refine ⟨?_, ?_, ?_, ?_, ?_⟩ <;> simp [offD, offF, upd, h0, h1]
  · exact ⟨h0, h1, rfl, rfl, rfl⟩
theorem on0 (d o : D) (hr : Rel d o) : Rel (onD d) (onD o) := ⟨hr.s, hr.t, rfl, hr.a, hr.a'⟩
theorem app1 (ys : List Int) (d o : D) (hr : Rel d o) : Rel (appR d 1 ys).1 o := by
  revert d o
  refine Rel.split fun b b' off n n' k k' h0 h1 => ?_
  cases off
  · refine ⟨?_, ?_, ?_, ?_, ?_⟩ <;> simp [appR, rdy, appD, gone, rawD, putB, upd, h0, h1]
  · exact ⟨h0, h1, rfl, rfl, rfl⟩
theorem sync1 (d o : D) (hr : Rel d o) : Rel (syncR d 1).1 o := by
  revert d o
  refine Rel.split fun b b' off n n' k k' h0 h1 => ?_
  cases off
  · refine ⟨?_, ?_, ?_, ?_, ?_⟩ <;> simp [syncR, rdy, syncD, syncB, gone, rawD, putB, upd, h0, h1]
  · exact ⟨h0, h1, rfl, rfl, rfl⟩
theorem cut1 (m : Int) (d o : D) (hr : Rel d o) : Rel (cutR d 1 m).1 o := by
  revert d o
  refine Rel.split fun b b' off n n' k k' h0 h1 => ?_
  unfold cutR
  split
  · exact ⟨h0, h1, rfl, rfl, rfl⟩
  split
  · exact ⟨h0, h1, rfl, rfl, rfl⟩
  split
  · exact ⟨h0, h1, rfl, rfl, rfl⟩
  · refine ⟨?_, ?_, ?_, ?_, ?_⟩ <;> simp [cutD, cutB, gone, rawD, putB, upd, h0, h1]
theorem rel_both {d o : D} (hr : Rel d o) {kd f : Int} (h3 : kd ≠ 3) (hf : f = 0 ∨ kd = 4 ∨ kd = 5) (n k : Int) (ys : List Int) : Rel (doR d kd f n k ys).1 (doR o kd f n k ys).1 := by
  unfold doR
  split
  · obtain rfl : f = 0 := by omega
    exact app0 ys d o hr
  split
  · obtain rfl : f = 0 := by omega
    exact sync0 d o hr
  split
  · obtain rfl : f = 0 := by omega
    exact cut0 n d o hr
  split
  · exact off0 k d o hr
  split
  · exact on0 d o hr
  split
  · exact hr
  · exact hr
theorem rel_one {d o : D} (hr : Rel d o) {kd : Int} (h3 : kd ≠ 3) (h4 : kd ≠ 4) (h5 : kd ≠ 5) (n k : Int) (ys : List Int) : Rel (doR d kd 1 n k ys).1 o := by
  unfold doR
  split
  · exact app1 ys d o hr
  split
  · exact sync1 d o hr
  split
  · exact cut1 n d o hr
  split
  · exact hr
  · exact hr
theorem rel_read {d o : D} (hr : Rel d o) : readR d 0 = readR o 0 ∧ safeR d 0 = safeR o 0 := by
  have h : rdy d 0 = rdy o 0 := by unfold rdy; rw [hr.off]
  have e : fileB d (0 : Int).toNat = fileB o (0 : Int).toNat := by
    show d.b 0 ++ d.b 1 = o.b 0 ++ o.b 1
    rw [hr.s, hr.t]
  refine ⟨?_, ?_⟩
  · unfold readR
    rw [h, e]
  · exact hr.s
theorem disj_l {w w1 : World} {base p q : Nat} {cs cs' ct : Nat → Sl} {o : D} (hd : ∀ g, Ft p cs g → ¬ Ft q ct g) (s : DStep w base p cs w1 cs') (ho : DAt w base q ct o) : ∀ g, Ft p cs' g → ¬ Ft q ct g := fun g hg h => by
  rcases s.foot g hg with e | e
  · exact hd g e h
  · have := (ho.ft h).2
    omega
theorem disj_r {w w1 : World} {base p q : Nat} {cs ct ct' : Nat → Sl} {d : D} (hd : ∀ g, Ft p cs g → ¬ Ft q ct g) (s : DStep w base q ct w1 ct') (h : DAt w base p cs d) : ∀ g, Ft p cs g → ¬ Ft q ct' g := fun g hg hq => by
  rcases s.foot g hq with e | e
  · exact hd g hg e
  · have := (h.ft hg).2
    omega
end Go.Proofs.Ytbmdglbhmianjaa.filesp
