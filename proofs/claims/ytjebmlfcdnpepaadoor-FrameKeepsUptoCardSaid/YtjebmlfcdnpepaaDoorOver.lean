/- A range over a function whose rounds are told what they are handed: the law of the statement with a word on the round's values. -/
import Derived.Test.YtjebmlfcdnpepaaDoorWWords
import Derived.RangeFuncNested
set_option linter.unusedVariables false
set_option linter.unusedSimpArgs false
namespace Go.Proofs.YtjebmlfcdnpepaaDoor.over
open Go.RowKit
variable {F : Fence} {n : Nat} {P : Program} {α : Type}

/-- the loop's record, and the block for its rounds' deferred calls -/
structure RecAt (R : Loop) (d l : Nat) (W : World) : Prop where
  loop : W.heap[l]? = some (.loop R)
  defd : W.heap[d]? = some (.deferred (some []))
theorem RecAt.put {R : Loop} {d l : Nat} {W : World} (h : RecAt R d l W) (hne : d ≠ l) (R' : Loop) : RecAt R' d l (W.putObj l (.loop R')) :=
  ⟨World.putObj_heap_same (Array.getElem?_eq_some_iff.1 h.loop).1, (World.putObj_heap_other hne).trans h.defd⟩
theorem RecAt.keeps {R : Loop} {d l B : Nat} {W W' : World} (h : RecAt R d l W) (hk : KeepsFrom B W W') (hd : B ≤ d) (hl : B ≤ l) : RecAt R d l W' :=
  ⟨hk.same _ _ hl h.loop rfl, hk.same _ _ hd h.defd rfl⟩
theorem RecAt.abides {B : Nat} {R : Loop} {d l : Nat} {W W' : World} {row : Option Nat} (h : RecAt R d l W) (hg : W.grownBy W' row) (hr : ∀ r, row = some r → B ≤ r ∧ ∃ o : Obj, W.heap[r]? = some o ∧ o.isWalk = true) : RecAt R d l W' :=
  ⟨(grownBy_keeps hg (fun r e => (hr r e).2) h.loop rfl).trans h.loop, (grownBy_keeps hg (fun r e => (hr r e).2) h.defd rfl).trans h.defd⟩

/-- the cells of a world stand in a later one -/
def CK (A B : World) : Prop := A.heap.size ≤ B.heap.size ∧ ∀ (i : Nat) (o : Obj), A.heap[i]? = some o → o.isCells = true → B.heap[i]? = some o
theorem CK.of_below {A B : World} (h : Below A.heap.size A B) : CK A B := ⟨h.size, fun i o ho _ => by rw [h.block i (Array.getElem?_eq_some_iff.1 ho).1]; exact ho⟩
theorem CK.put {A B : World} (h : CK A B) {l : Nat} {o : Obj} (o' : Obj) (hl : B.heap[l]? = some o) (ho : o.isCells = false) : CK A (B.putObj l o') :=
  ⟨by simpa using h.1, fun i z hz hc => by
    have h1 := h.2 i z hz hc
    have hne : i ≠ l := by intro e; subst e; rw [hl] at h1; injection h1 with h1; subst h1; rw [ho] at hc; cases hc
    exact (World.putObj_heap_other hne).trans h1⟩
theorem CK.cell {A B : World} (h : CK A B) {a : Addr} {v : Value} (hc : A.cell? a = some v) : B.cell? a = some v := by
  obtain ⟨o, ho, hk⟩ := cells_of_cell hc
  rw [← hc]
  exact World.cell?_of_block ((h.2 _ _ ho hk).trans ho.symm)
/-- the iterator's contract: V: what it tells a round of the value it hands over; B: all new memory since its call -/
def SeqV (F : Fence) (n : Nat) (P : Program) (g : Nat) (lb : Array Value) (encs : α → Array Value) (Kp : World → World → Prop) (V : Nat → List α → α → World → Prop) (S Sp : List α → Prop) (w : World) : Prop :=
  ∀ (l : Nat) (J Jx : List α → World → Prop) (W : World), Below w.heap.size w W → AbidesFrom W.heap.size J → AbidesFrom W.heap.size Jx →
    (∀ pre x W0 W1, J pre W0 → J pre W1 → W.heap.size ≤ W0.heap.size → CK W0 W1 → V W0.heap.size pre x W1 → YieldAt F (n - 1) P l (encs x) W1 fun e W' =>
      (e = .returned (.bool true) ∧ J (pre ++ [x]) W' ∧ Kp W1 W') ∨ (e = .returned (.bool false) ∧ Jx (pre ++ [x]) W')) →
    J [] W →
    CallsIn F n P g (#[.func (.yield l) #[] #[]] ++ lb) W fun e W' => (∃ v, e = .returned v) ∧ ((∃ xs, S xs ∧ J xs W') ∨ (∃ pre, Sp pre ∧ Jx pre W'))
theorem SeqV.stops {g : Nat} {lb : Array Value} {encs : α → Array Value} {Kp : World → World → Prop} {V : Nat → List α → α → World → Prop} {S Sp : List α → Prop} {w : World} {N : Nat}
    (h : SeqV F n P g lb encs Kp V S Sp w) (hN : ∀ B pre x W, V B pre x W → pre.length < N) : SeqStopsK F n P g lb encs Kp S Sp N w :=
  fun l J Jx W hW hJ hJx hY h0 => h l J Jx W hW hJ hJx (fun pre x W0 W1 _ hj _ _ hv => hY pre x W1 hj (hN _ _ _ _ hv)) h0

/-- a round -/
theorem yieldAt_of {m : Nat} {R : Loop} {d l : Nat} {W : World} (h : RecAt R d l W) (hr : R.state = .ready) (hF : F.fn R.fn) {args : Array Value} (hs : args.size = R.params.size) (a₁ : Act) (T : Exit → Act → World → Prop) (Rp : Ending → World → Prop)
    (hassign : ∀ K : Act → World → Prop, K a₁ W → R.assign.wpIn (F.inRound l) m P (Exit.then K (fun _ _ _ => False)) { tmps := (R.params.zip args).foldl (fun tmps (t, a) => tmps.setIfInBounds t a) R.tmps, defers := [] } W)
    (hbody : R.body.wpIn (F.inRound l) m P T a₁ (W.putObj l (.loop { R with state := .busy }))) (hT : ∀ e a W3, T e a W3 → roundPost P l Rp e a W3) : YieldAt F m P l args W Rp :=
  ⟨_, _, _, _, run_yield h.loop hs, roundIn_of_wpIn hF (hassign _ ⟨_, run_beginRound h.loop hr, wpIn_mono hbody hT⟩)⟩
/-- the statement -/
theorem wpIn_overV {g : Operand} {ps : Array Tmp} {assign body : Code} {Q : Exit → Act → World → Prop} {a : Act} {w : World}
    (hro : F.round = none) (h1 : 1 ≤ n) {gf : Nat} {lb : Array Value} (hg : a.eval g = .func (.func gf) #[] lb) (hFg : F.fn gf) (eg : ∀ args w, (callFunc gf args).run P w = .ok (.enter gf args) w)
    {encs : α → Array Value} {Kp : World → World → Prop} {V : Nat → List α → α → World → Prop} {S Sp : List α → Prop} {w0 : World} (hseq : SeqV F (n - 1) P gf lb encs Kp V S Sp w0)
    (hKt : ∀ {A B C : World}, Kp A B → Kp B C → Kp A C) (hKb : ∀ (W : World) (l : Nat) (o o' : Obj), w.heap.size ≤ l → W.heap[l]? = some o → o.isCells = false → o.isWalk = false → Kp W (W.putObj l o')) (hb0 : Below w0.heap.size w0 w) (hps : ∀ x, (encs x).size = ps.size)
    (hV : ∀ B, OwnFrom w.heap.size (fun (z : List α × α) W => V B z.1 z.2 W))
    (I : List α → World → Prop) (Ix : Code → List α → World → Prop) (hI : OwnFrom w.heap.size I) (hIx : ∀ c, OwnFrom w.heap.size (Ix c)) (h0 : I [] w) (a₁ : α → Act)
    (hassign : ∀ (l : Nat) (x : α) (W : World) (K : Act → World → Prop), K (a₁ x) W →
      assign.wpIn (F.inRound l) (n - 1 - 1) P (Exit.then K (fun _ _ _ => False)) { tmps := (ps.zip (encs x)).foldl (fun t (p, v) => t.setIfInBounds p v) a.tmps, defers := [] } W)
    (hbody : ∀ (l : Nat) (pre : List α) (x : α) (W0 W : World), I pre W0 → I pre W → w.heap.size ≤ W0.heap.size → CK W0 W → V W0.heap.size pre x W → body.wpIn (F.inRound l) (n - 1 - 1) P (ownPostG w.heap.size Kp I Ix (pre ++ [x]) W) (a₁ x) W)
    (hdone : ∀ (D : Nat) (xs : List α) (W : World), w.heap.size ≤ D → S xs → I xs W → W.heap[D]? = some (.deferred (some [])) → Q .normal { a with defers := { target := .collected D, args := #[] } :: a.defers } W)
    (hstop : ∀ (D : Nat) (c : Code) (pre : List α) (W : World), w.heap.size ≤ D → Sp pre → Ix c pre W → W.heap[D]? = some (.deferred (some [])) → c.wpIn F n P Q { a with defers := { target := .collected D, args := #[] } :: a.defers } W) :
    (Code.rangeFunc g ps assign body).wpIn F n P Q a w := by
  refine wpIn_rangeFunc fun fn hfn => ?_
  rw [hro]
  refine ⟨_, _, ((w.alloc (.deferred (some []))).alloc (.loop { state := .ready, pending := none, fn, tmps := a.tmps, params := ps, assign, body, defers := w.heap.size })), { target := .fn (.func gf) lb, args := #[.func (.yield (w.heap.size + 1)) #[] #[]] }, ((w.alloc (.deferred (some []))).alloc (.loop { state := .ready, pending := none, fn, tmps := a.tmps, params := ps, assign, body, defers := w.heap.size })), gf, #[.func (.yield (w.heap.size + 1)) #[] #[]] ++ lb, ((w.alloc (.deferred (some []))).alloc (.loop { state := .ready, pending := none, fn, tmps := a.tmps, params := ps, assign, body, defers := w.heap.size })), run_enterLoop_outer fn a.tmps ps assign body, by simp only [resolve, hg]; simp [go_sem], ?_, by simp [invoke, go_sem, eg], fun _ => h1, ?_⟩
  · intro f' hf'
    simp [Target.leads] at hf'
    subst hf'
    exact hFg
  have hdl : w.heap.size ≠ w.heap.size + 1 := by omega
  have hB0 : Below w.heap.size w ((w.alloc (.deferred (some []))).alloc (.loop { state := .ready, pending := none, fn, tmps := a.tmps, params := ps, assign, body, defers := w.heap.size })) :=
    ((Below.refl _ w).alloc (Nat.le_refl _) _).alloc (by simp) _
  have hA0 : RecAt { state := .ready, pending := none, fn, tmps := a.tmps, params := ps, assign, body, defers := w.heap.size } w.heap.size (w.heap.size + 1) ((w.alloc (.deferred (some []))).alloc (.loop { state := .ready, pending := none, fn, tmps := a.tmps, params := ps, assign, body, defers := w.heap.size })) := by
    refine ⟨?_, (Below.heap_alloc _ _ _ (by simp)).trans (World.alloc_heap_new w _)⟩
    have := World.alloc_heap_new (w.alloc (.deferred (some []))) (.loop { state := .ready, pending := none, fn, tmps := a.tmps, params := ps, assign, body, defers := w.heap.size })
    rwa [World.size_alloc] at this
  have hz0 : ((w.alloc (.deferred (some []))).alloc (.loop { state := .ready, pending := none, fn, tmps := a.tmps, params := ps, assign, body, defers := w.heap.size })).heap.size = w.heap.size + 1 + 1 := by simp
  have hi0 := hI.alloc (.loop { state := .ready, pending := none, fn, tmps := a.tmps, params := ps, assign, body, defers := w.heap.size }) (hI.alloc (.deferred (some [])) h0)
  generalize (w.alloc (.deferred (some []))).alloc (.loop { state := .ready, pending := none, fn, tmps := a.tmps, params := ps, assign, body, defers := w.heap.size }) = w1 at hB0 hA0 hz0 hi0 ⊢
  have hrow : ∀ {A : World} {row : Option Nat}, (∀ r, row = some r → w1.heap.size ≤ r ∧ ∃ o : Obj, A.heap[r]? = some o ∧ o.isWalk = true) → (∀ r, row = some r → w.heap.size ≤ r ∧ ∃ o : Obj, A.heap[r]? = some o ∧ o.isCells = false) := fun hr r e => by
    obtain ⟨h1, o, ho, hw⟩ := hr r e
    exact ⟨by omega, o, ho, Obj.not_cells_of_walk hw⟩
  refine (hseq (w.heap.size + 1)
    (fun pre W => I pre W ∧ RecAt { state := .ready, pending := none, fn, tmps := a.tmps, params := ps, assign, body, defers := w.heap.size } w.heap.size (w.heap.size + 1) W)
    (fun pre W => ∃ c, Ix c pre W ∧ RecAt { state := .done, pending := some c, fn, tmps := a.tmps, params := ps, assign, body, defers := w.heap.size } w.heap.size (w.heap.size + 1) W) w1 (hb0.trans (hB0.mono hb0.size))
    (fun s A B row hs hg' hr => ⟨hI s A B row hs.1 hg' (hrow (A := A) hr), hs.2.abides hg' hr⟩)
    (fun s A B row hs hg' hr => by obtain ⟨c, hc, hl⟩ := hs; exact ⟨c, hIx c s A B row hc hg' (hrow (A := A) hr), hl.abides hg' hr⟩) ?_ ⟨hi0, hA0⟩).mono ?_
  · rintro pre x W0 W ⟨hj0, _⟩ ⟨hi, hA⟩ hz hck hv
    have hbz := hA.put hdl { state := .busy, pending := none, fn, tmps := a.tmps, params := ps, assign, body, defers := w.heap.size }
    refine yieldAt_of hA rfl hfn (hps x) (a₁ x) _ _ (fun K hK => hassign _ x W K hK) (hbody _ pre x W0 _ hj0 (hI.putObj _ hi (by omega) hA.loop rfl) (by omega) (hck.put _ hA.loop rfl) ((hV W0.heap.size).putObj (s := (pre, x)) _ hv (by omega) hA.loop rfl)) ?_
    intro e a3 W3 hp
    cases e with
    | normal =>
      obtain ⟨hk, hkp, hi3⟩ := hp
      have h3 := hbz.keeps hk (Nat.le_refl _) (by omega)
      exact ⟨_, _, run_endRound none h3.loop, .inl ⟨rfl, ⟨hI.putObj _ hi3 (by omega) h3.loop rfl, h3.put hdl _⟩, hKt (hKt (hKb _ _ _ _ (by omega) hA.loop rfl rfl) hkp) (hKb _ _ _ _ (by omega) h3.loop rfl rfl)⟩⟩
    | ret =>
      obtain ⟨hk, hi3⟩ := hp
      have h3 := hbz.keeps hk (Nat.le_refl _) (by omega)
      exact ⟨_, _, run_endRound (some .ret) h3.loop, .inr ⟨rfl, .ret, (hIx _).putObj _ hi3 (by omega) h3.loop rfl, h3.put hdl _⟩⟩
    | exit id =>
      obtain ⟨hk, hi3⟩ := hp
      have h3 := hbz.keeps hk (Nat.le_refl _) (by omega)
      exact ⟨_, _, run_endRound (some (.exit id)) h3.loop, .inr ⟨rfl, .exit id, (hIx _).putObj _ hi3 (by omega) h3.loop rfl, h3.put hdl _⟩⟩
    | goto t =>
      obtain ⟨hk, hi3⟩ := hp
      have h3 := hbz.keeps hk (Nat.le_refl _) (by omega)
      exact ⟨_, _, run_endRound (some (.goto t)) h3.loop, .inr ⟨rfl, .goto t, (hIx _).putObj _ hi3 (by omega) h3.loop rfl, h3.put hdl _⟩⟩
    | panic ch => exact hp.elim
    | outgrown => exact hp.elim
  · rintro e W2 ⟨⟨v, rfl⟩, ⟨xs, hS, hi, hA⟩ | ⟨pre, hSp, c, hi, hA⟩⟩
    · exact ⟨none, _, run_endLoop hA.loop (by simp), hdone _ xs _ (Nat.le_refl _) hS (hI.putObj _ hi (by omega) hA.loop rfl) (hA.put hdl { state := .exhausted, pending := none, fn, tmps := a.tmps, params := ps, assign, body, defers := w.heap.size }).defd⟩
    · exact ⟨some c, _, run_endLoop hA.loop (by simp), hstop _ c pre _ (Nat.le_refl _) hSp ((hIx c).putObj _ hi (by omega) hA.loop rfl) (hA.put hdl { state := .exhausted, pending := some c, fn, tmps := a.tmps, params := ps, assign, body, defers := w.heap.size }).defd⟩
end Go.Proofs.YtjebmlfcdnpepaaDoor.over
