/- A script's round: what stays. -/
import Derived.Test.YtbmdglbhmianjaaOps
import Derived.Test.YtbmdglbhmianjaaDiskNil
set_option linter.unusedVariables false
set_option linter.unusedSimpArgs false
namespace Go.Proofs.Ytbmdglbhmianjaa.ops
open Go.RowKit Go.Proofs.YtbmdglbhmianjaaW.PrintWords Go.Proofs.Ytbmdglbhmianjaa.base Go.Proofs.Ytbmdglbhmianjaa.mem Go.Proofs.Ytbmdglbhmianjaa.keep Go.Proofs.Ytbmdglbhmianjaa.diskp Go.Proofs.Ytbmdglbhmianjaa.diskr Go.Proofs.Ytbmdglbhmianjaa.diskw

/-- a box of a call -/
def BoxO (w : World) (b : Nat) (kd f n k : Int) (A : Option Addr) (m c : Nat) : Prop := w.cell? ⟨b, 0, none⟩ = some (.int .i64 kd) ∧ w.cell? ⟨b, 1, none⟩ = some (.int .i64 f) ∧ w.cell? ⟨b, 2, none⟩ = some (.int .i64 n) ∧ w.cell? ⟨b, 3, none⟩ = some (.int .i64 k) ∧ w.cell? ⟨b, 4, none⟩ = some (.slice A m c)
section
variable {w w1 : World} {b : Nat} {kd f n k : Int} {A : Option Addr} {m c : Nat} {base p : Nat} {cs cs' : Nat → Sl}
theorem BoxO.new (w : World) (kd f n k : Int) (A : Option Addr) (m c : Nat) : BoxO (w.alloc (.cells #[.int .i64 kd, .int .i64 f, .int .i64 n, .int .i64 k, .slice A m c] 40)) w.heap.size kd f n k A m c := by
  have hh : (w.alloc (.cells #[.int .i64 kd, .int .i64 f, .int .i64 n, .int .i64 k, .slice A m c] 40)).heap[w.heap.size]? = some (.cells #[.int .i64 kd, .int .i64 f, .int .i64 n, .int .i64 k, .slice A m c] 40) := by
    show (w.heap.push _)[w.heap.size]? = _
    simp
  refine ⟨?_, ?_, ?_, ?_, ?_⟩ <;> (unfold World.cell?; rw [hh]; rfl)
theorem BoxO.below (h : BoxO w b kd f n k A m c) (hb : Below w.heap.size w w1) : BoxO w1 b kd f n k A m c :=
  ⟨pw_cell_below hb h.1, pw_cell_below hb h.2.1, pw_cell_below hb h.2.2.1, pw_cell_below hb h.2.2.2.1, pw_cell_below hb h.2.2.2.2⟩
theorem cell_past {ad : Addr} {v : Value} (h : w.cell? ad = some v) (hn : ¬ Ft p cs ad.block) (s : DStep w base p cs w1 cs') : w1.cell? ad = some v := by
  have hl : ad.block < w.heap.size := by
    unfold World.cell? at h
    split at h
    · rename_i x _ _ _ hx
      exact (Array.getElem?_eq_some_iff.1 hx).1
    · cases h
  rw [← h]
  exact World.cell?_of_block (s.keep.2 _ hn hl)
theorem BoxO.past (h : BoxO w b kd f n k A m c) (hn : ¬ Ft p cs b) (s : DStep w base p cs w1 cs') : BoxO w1 b kd f n k A m c :=
  ⟨cell_past h.1 hn s, cell_past h.2.1 hn s, cell_past h.2.2.1 hn s, cell_past h.2.2.2.1 hn s, cell_past h.2.2.2.2 hn s⟩
end
theorem own_past {w w1 : World} {base p B n c : Nat} {cs cs' : Nat → Sl} {A : Option Addr} {xs : List Int} (h : OwB w B A n c xs) (hB : ∀ g, Ft p cs g → g < B) (s : DStep w base p cs w1 cs') : OwB w1 B A n c xs := by
  refine ⟨⟨h.1.1, ?_⟩, h.2⟩
  rcases h.1.2 with hv | ⟨g, cap, cur, hv, h1, h2, h3⟩
  · exact .inl hv
  · refine .inr ⟨g, cap, cur, hv, h1, ?_, h3⟩
    rw [s.keep.2 g (fun e => by have := hB g e; omega) (Array.getElem?_eq_some_iff.1 h2).1]
    exact h2
theorem gone_n (d : D) : (gone d).n = d.n + 1 := by
  unfold gone rawD offD
  split <;> split <;> (try split) <;> rfl
theorem syncD_n (d : D) (f : Nat) : (syncD d f).n = d.n + 1 := by
  unfold syncD
  split
  · exact gone_n d
  · exact gone_n d
theorem cutD_n (d : D) (f n : Nat) : (cutD d f n).n = d.n + 1 := by
  unfold cutD
  split
  · exact gone_n d
  · exact gone_n d
/-- what is refused without a raw write -/
theorem refused (d : D) (kd f n k : Int) (ys : List Int) (hr : (doR d kd f n k ys).2.2 ≠ 0) (hn : (doR d kd f n k ys).1.n = d.n) : (doR d kd f n k ys).1 = d := by
  revert hr hn
  unfold doR
  split
  · unfold appR
    split
    · exact fun _ _ => rfl
    · intro _ h
      have := gone_n (putB d (2 * f.toNat + 1) (d.b (2 * f.toNat + 1) ++ ys))
      have e : (putB d (2 * f.toNat + 1) (d.b (2 * f.toNat + 1) ++ ys)).n = d.n := rfl
      unfold appD at h
      dsimp only at h
      omega
  split
  · unfold syncR
    split
    · exact fun _ _ => rfl
    · intro _ h
      have := syncD_n d f.toNat
      dsimp only at h
      omega
  split
  · unfold cutR
    split
    · exact fun _ _ => rfl
    split
    · exact fun _ _ => rfl
    split
    · exact fun _ _ => rfl
    · intro _ h
      have := cutD_n d f.toNat n.toNat
      dsimp only at h
      omega
  split
  · intro h _; exact absurd rfl h
  split
  · intro h _; exact absurd rfl h
  split
  · intro h _; exact absurd rfl h
  split
  · exact fun _ _ => rfl
  · intro h _; exact absurd rfl h
end Go.Proofs.Ytbmdglbhmianjaa.ops
