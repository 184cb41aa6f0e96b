/- What a disk's numbers stay within: plain Lean. -/
import Derived.Test.YtbmdglbhmianjaaDiskRead
set_option linter.unusedVariables false
set_option linter.unusedSimpArgs false
namespace Go.Proofs.Ytbmdglbhmianjaa.diskw
open Go.RowKit Go.Proofs.YtbmdglbhmianjaaW.PrintWords Go.Proofs.Ytbmdglbhmianjaa.base Go.Proofs.Ytbmdglbhmianjaa.mem Go.Proofs.Ytbmdglbhmianjaa.diskp Go.Proofs.Ytbmdglbhmianjaa.diskr

def tot (b : Nat → List Int) (f : Nat) : Nat := (b (2 * f)).length + (b (2 * f + 1)).length
/-- bounds of a disk -/
structure Ok (d : D) (S N : Nat) : Prop where
  s : tot d.b 0 ≤ S ∧ tot d.b 1 ≤ S
  n : 0 ≤ d.n ∧ d.n ≤ N
  a : 0 ≤ d.a ∧ d.a ≤ 9223372036854775807
  k : -9223372036854775808 ≤ d.k ∧ d.k ≤ 9223372036854775807
section
variable {d : D} {S N : Nat}
theorem Ok.len (h : Ok d S N) (i : Nat) (hi : i < 4) : (d.b i).length ≤ S := by
  obtain ⟨h0, h1⟩ := h.s
  unfold tot at h0 h1
  match i, hi with
  | 0, _ => simp at h0; omega
  | 1, _ => simp at h0; omega
  | 2, _ => simp at h1; omega
  | 3, _ => simp at h1; omega
theorem Ok.fit (h : Ok d S N) (hS : S ≤ 17592186044416) (hN : N ≤ 4611686018427387904) : Fit d :=
  ⟨fun i hi => Nat.le_trans (h.len i hi) hS, ⟨h.n.1, by have := h.n.2; omega⟩, h.a, h.k⟩
theorem tot_off0 (k : Int) (b : Nat → List Int) : tot (offF k b 0) 0 ≤ tot b 0 ∧ tot (offF k b 0) 1 = tot b 1 := by
  unfold tot offF upd
  simp only [Nat.mul_zero, Nat.zero_add, Nat.mul_one, List.length_take]
  simp
  omega
theorem tot_off1 (k : Int) (b : Nat → List Int) : tot (offF k b 1) 1 ≤ tot b 1 ∧ tot (offF k b 1) 0 = tot b 0 := by
  unfold tot offF upd
  simp only [Nat.mul_zero, Nat.zero_add, Nat.mul_one, List.length_take]
  simp
  omega
theorem Ok.off (h : Ok d S N) (k : Int) : Ok (offD d k) S N := by
  unfold offD
  split
  · exact h
  · have h0 := tot_off0 k d.b
    have h1 := tot_off1 k (offF k d.b 0)
    refine ⟨⟨?_, ?_⟩, h.n, ⟨by show (0 : Int) ≤ 0; omega, by show (0 : Int) ≤ _; omega⟩, h.k⟩
    · show tot (offF k (offF k d.b 0) 1) 0 ≤ S
      have := h.s.1
      omega
    · show tot (offF k (offF k d.b 0) 1) 1 ≤ S
      have := h.s.2
      omega
theorem Ok.raw (h : Ok d S N) : Ok (rawD d).1 S (N + 1) := by
  have hn := h.n
  have ha := h.a
  unfold rawD
  split
  · exact ⟨h.s, ⟨by show 0 ≤ d.n + 1; omega, by show d.n + 1 ≤ _; omega⟩, h.a, h.k⟩
  · rename_i h0
    exact ⟨h.s, ⟨by show 0 ≤ d.n + 1; omega, by show d.n + 1 ≤ _; omega⟩, ⟨by show 0 ≤ d.a - 1; omega, by show d.a - 1 ≤ _; omega⟩, h.k⟩
theorem Ok.gone (h : Ok d S N) : Ok (diskp.gone d) S (N + 1) := by
  unfold diskp.gone
  split
  · exact h.raw.off _
  · exact h.raw
theorem Ok.more (h : Ok d S N) {S' N' : Nat} (hs : S ≤ S') (hn : N ≤ N') : Ok d S' N' := ⟨⟨Nat.le_trans h.s.1 hs, Nat.le_trans h.s.2 hs⟩, ⟨h.n.1, by have := h.n.2; omega⟩, h.a, h.k⟩
theorem Ok.app (h : Ok d S N) (f : Int) (ys : List Int) : Ok (appR d f ys).1 (S + ys.length) (N + 1) := by
  unfold appR
  split
  · exact h.more (by omega) (by omega)
  · rename_i h0
    obtain ⟨i, rfl, hi, _⟩ := rdy_ok (d := d) (f := f) (by simpa using h0)
    have e : (i : Int).toNat = i := by omega
    show Ok (appD d (i : Int).toNat ys) _ _
    rw [e]
    unfold appD
    refine Ok.gone ⟨?_, h.n, h.a, h.k⟩
    obtain ⟨t0, t1⟩ := h.s
    unfold tot at t0 t1 ⊢
    simp only [putB, upd]
    clear e
    rcases (show i = 0 ∨ i = 1 by omega) with rfl | rfl <;> simp at t0 t1 ⊢ <;> omega
theorem Ok.sync (h : Ok d S N) (f : Int) : Ok (syncR d f).1 S (N + 1) := by
  unfold syncR
  split
  · exact h.more (Nat.le_refl _) (by omega)
  · rename_i h0
    obtain ⟨i, rfl, hi, _⟩ := rdy_ok (d := d) (f := f) (by simpa using h0)
    have e : (i : Int).toNat = i := by omega
    show Ok (syncD d (i : Int).toNat) _ _
    rw [e]
    unfold syncD
    split
    · exact h.gone
    · have hg := h.gone
      generalize diskp.gone d = d' at hg
      refine ⟨?_, hg.n, hg.a, hg.k⟩
      obtain ⟨t0, t1⟩ := hg.s
      unfold tot at t0 t1 ⊢
      simp only [syncB, putB, upd]
      clear e
      rcases (show i = 0 ∨ i = 1 by omega) with rfl | rfl <;> simp at t0 t1 ⊢ <;> omega
theorem Ok.cut (h : Ok d S N) (f n : Int) : Ok (cutR d f n).1 S (N + 1) := by
  unfold cutR
  split
  · exact h.more (Nat.le_refl _) (by omega)
  · split
    · exact h.more (Nat.le_refl _) (by omega)
    · split
      · exact h.more (Nat.le_refl _) (by omega)
      · rename_i h0
        obtain ⟨i, rfl, hi, _⟩ := rdy_ok (d := d) (f := f) (by simpa using h0)
        have e : (i : Int).toNat = i := by omega
        show Ok (cutD d (i : Int).toNat n.toNat) _ _
        rw [e]
        unfold cutD
        split
        · exact h.gone
        · have hg := h.gone
          generalize diskp.gone d = d' at hg
          refine ⟨?_, hg.n, hg.a, hg.k⟩
          obtain ⟨t0, t1⟩ := hg.s
          unfold tot at t0 t1 ⊢
          simp only [cutB, putB, upd]
          clear e
          rcases (show i = 0 ∨ i = 1 by omega) with rfl | rfl <;> simp at t0 t1 ⊢ <;> omega
theorem Ok.arm (h : Ok d S N) {n k : Int} (hn : n ≤ 9223372036854775807) (hk : -9223372036854775808 ≤ k ∧ k ≤ 9223372036854775807) : Ok (armD d n k) S N := ⟨h.s, h.n, ⟨by show 0 ≤ max n 0; omega, by show max n 0 ≤ _; omega⟩, hk⟩
theorem Ok.on (h : Ok d S N) : Ok (onD d) S N := ⟨h.s, h.n, h.a, h.k⟩
theorem Ok.load (a b : List Int) : Ok (diskp.load a b) (a.length + b.length) 0 := by
  refine ⟨?_, ⟨by show (0 : Int) ≤ 0; omega, by show (0 : Int) ≤ 0; omega⟩, ⟨by show (0 : Int) ≤ 0; omega, by show (0 : Int) ≤ _; omega⟩, ⟨by show _ ≤ (0 : Int); omega, by show (0 : Int) ≤ _; omega⟩⟩
  unfold tot diskp.load
  simp
/-- what a call of a script does -/
def doR (d : D) (kd f n k : Int) (ys : List Int) : D × List Int × Int :=
  if kd = 0 then ((appR d f ys).1, [], (appR d f ys).2) else if kd = 1 then ((syncR d f).1, [], (syncR d f).2) else if kd = 2 then ((cutR d f n).1, [], (cutR d f n).2)
  else if kd = 3 then (armD d n k, [], 0) else if kd = 4 then (offD d k, [], 0) else if kd = 5 then (onD d, [], 0) else if kd = 6 then (d, (readR d f).1, (readR d f).2) else (d, [], 0)
theorem Ok.do_ (h : Ok d S N) (kd f : Int) {n k : Int} (ys : List Int) (hn : n ≤ 9223372036854775807) (hk : -9223372036854775808 ≤ k ∧ k ≤ 9223372036854775807) : Ok (doR d kd f n k ys).1 (S + ys.length) (N + 1) := by
  unfold doR
  split
  · exact h.app f ys
  split
  · exact (h.sync f).more (by omega) (by omega)
  split
  · exact (h.cut f n).more (by omega) (by omega)
  split
  · exact (h.arm hn hk).more (by omega) (by omega)
  split
  · exact (h.off k).more (by omega) (by omega)
  split
  · exact h.on.more (by omega) (by omega)
  split
  · exact h.more (by omega) (by omega)
  · exact h.more (by omega) (by omega)
end
end Go.Proofs.Ytbmdglbhmianjaa.diskw
