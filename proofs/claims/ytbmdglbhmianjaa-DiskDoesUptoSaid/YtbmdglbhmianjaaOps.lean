/- A slice of structs of four whole numbers and a slice of bytes: a script, opened. -/
import Derived.Test.YtbmdglbhmianjaaShapes
import Derived.Test.YtbmdglbhmianjaaBulk
import Derived.Test.YtbmdglbhmianjaaDiskDoes
import Derived.Deep.Slices
set_option linter.unusedVariables false
set_option linter.unusedSimpArgs false
namespace Go.Proofs.Ytbmdglbhmianjaa.ops
open Go.ChangeShapes Go.WideShapes Go.ChangeAt Go.RowKit Go.Proofs.YtbmdglbhmianjaaW.PrintWords Go.Proofs.Ytbmdglbhmianjaa.base Go.Proofs.Ytbmdglbhmianjaa.mem Go.Proofs.Ytbmdglbhmianjaa.diskp Go.Proofs.Ytbmdglbhmianjaa.diskr Go.Proofs.Ytbmdglbhmianjaa.diskw

/-- a call of a script -/
structure O where
  kd : Int
  f : Int
  n : Int
  k : Int
  A : Option Addr
  m : Nat
  c : Nat
  ys : List Int
def O.val (o : O) : Value := opV o.kd o.f o.n o.k o.A o.m o.c
def nilO : O := ⟨0, 0, 0, 0, none, 0, 0, []⟩
/-- its bounds -/
structure O.I (o : O) : Prop where
  kd : -9223372036854775808 ≤ o.kd ∧ o.kd ≤ 9223372036854775807
  f : -9223372036854775808 ≤ o.f ∧ o.f ≤ 9223372036854775807
  n : -9223372036854775808 ≤ o.n ∧ o.n ≤ 9223372036854775807
  k : -9223372036854775808 ≤ o.k ∧ o.k ≤ 9223372036854775807
  c : o.m ≤ o.c
/-- five cells behind a place -/
def At (w : World) (b p : Nat) (o : O) : Prop := w.cell? ⟨b, p, none⟩ = some (.int .i64 o.kd) ∧ w.cell? ⟨b, p + 1, none⟩ = some (.int .i64 o.f) ∧ w.cell? ⟨b, p + 2, none⟩ = some (.int .i64 o.n) ∧ w.cell? ⟨b, p + 3, none⟩ = some (.int .i64 o.k) ∧ w.cell? ⟨b, p + 4, none⟩ = some (.slice o.A o.m o.c)
theorem At.below {w w1 : World} {b p : Nat} {o : O} (h : At w b p o) (hb : Below w.heap.size w w1) : At w1 b p o :=
  ⟨pw_cell_below hb h.1, pw_cell_below hb h.2.1, pw_cell_below hb h.2.2.1, pw_cell_below hb h.2.2.2.1, pw_cell_below hb h.2.2.2.2⟩
def sumB (os : List O) : Nat := (os.map fun o => o.ys.length).sum
structure RdO (w : World) (A : Option Addr) (n : Nat) (os : List O) : Prop where
  len : os.length = n
  max : n ≤ 9223372036854775807
  at_ : 0 < n → ∃ b off, A = some ⟨b, off, none⟩ ∧ ∀ j, j < n → At w b (off + j * 5) (os.getD j nilO)
  rd : ∀ o ∈ os, RdB w o.A o.m o.ys
  ok : ∀ o ∈ os, o.I
theorem RdO.below {w w1 : World} {A : Option Addr} {n : Nat} {os : List O} (h : RdO w A n os) (hb : Below w.heap.size w w1) : RdO w1 A n os :=
  ⟨h.len, h.max, fun hn => by
    obtain ⟨b, off, e, hc⟩ := h.at_ hn
    exact ⟨b, off, e, fun j hj => (hc j hj).below hb⟩, fun o ho => (h.rd o ho).below hb, h.ok⟩
theorem take_snocO (os : List O) (k : Nat) (h : k < os.length) : os.take (k + 1) = os.take k ++ [os.getD k nilO] := by
  rw [List.take_add_one, List.getD_eq_getElem?_getD, List.getElem?_eq_getElem h]; rfl
theorem getD_memO (os : List O) (k : Nat) (h : k < os.length) : os.getD k nilO ∈ os := by
  rw [List.getD_eq_getElem?_getD, List.getElem?_eq_getElem h]; simp
theorem sumB_take (os : List O) (k : Nat) : sumB (os.take k) ≤ sumB os := by
  induction os generalizing k with
  | nil => simp [sumB]
  | cons o os ih =>
    cases k with
    | zero => simp [sumB]
    | succ k => have := ih k; simp [sumB] at *; omega
theorem sumB_snoc (os : List O) (o : O) : sumB (os ++ [o]) = sumB os + o.ys.length := by simp [sumB]
theorem sumB_mem (os : List O) {o : O} (h : o ∈ os) : o.ys.length ≤ sumB os := by
  induction os with
  | nil => cases h
  | cons x os ih =>
    rcases List.mem_cons.1 h with rfl | h
    · simp [sumB]
    · have := ih h; simp [sumB] at *; omega
theorem ops_all {H : Type} (l : List (DataW H)) (os : List O) (hl : l.length = os.length) (h : ∀ j, j < l.length → (os.getD j nilO).ys.length + 1 ≤ Rows.uptoBulk (l.getD j .nil)) : sumB os + os.length ≤ Rows.uptoBulkAll l := by
  induction l generalizing os with
  | nil => cases os with
    | nil => simp [sumB, Rows.uptoBulkAll]
    | cons => simp at hl
  | cons d l ih => cases os with
    | nil => simp at hl
    | cons o os =>
      have h0 := h 0 (by simp)
      have h1 := ih os (by simpa using hl) (fun j hj => by
        have := h (j + 1) (by simpa using hj)
        simpa using this)
      simp [sumB, Rows.uptoBulkAll] at *
      omega
section
variable {H : Type} {enc : TypeId × Value → H} {P : Program} {W : World} {base : Nat}
theorem openOps {t e ti ts tb : TypeId} {f0 f1 f2 f3 f4 : Field} {v : Value} {d : DataW H} {ps : List MemPlace} (ht : P.underlying t = some (.slice e)) (he : P.underlying e = some (.struct #[f0, f1, f2, f3, f4])) (hi : P.underlying ti = some (.int .i64)) (hs : P.underlying ts = some (.slice tb)) (hb : P.underlying tb = some (.int .u8)) (ci : P.cellsOf ti = 1) (cs1 : P.cellsOf ts = 1) (cb : P.cellsOf tb = 1) (hC : P.cellsOf e = 5)
    (hT : [f0, f1, f2, f3, f4].map (fun f => (f.type, f.offset)) = [(ti, 0), (ti, 1), (ti, 2), (ti, 3), (ts, 4)])
    (hv : Value.okWide P W .any base t v) (h : DataW.Trod enc P W 0 (fun _ => true) true t v d ps) :
    ∃ (A : Option Addr) (n c : Nat) (os : List O), v = .slice A n c ∧ n ≤ c ∧ RdO W A n os ∧ sumB os + n + 1 ≤ Rows.uptoBulk d := by
  obtain ⟨A, n, c, rfl⟩ := okWide_slice ht hv
  obtain ⟨fuel, hf⟩ := h
  simp only [List.map_cons, List.map_nil, List.cons.injEq, Prod.mk.injEq, and_true] at hT
  obtain ⟨⟨t0, o0⟩, ⟨t1, o1⟩, ⟨t2, o2⟩, ⟨t3, o3⟩, t4, o4⟩ := hT
  rcases Deep.open_slice ht hf with ⟨hcs, hx⟩ | ⟨a, l, cap, m, fu, D, Pl, hcs, _, hl, hm, hmm, hx0, hx⟩
  · simp [Value.cells] at hcs
    obtain ⟨rfl, rfl, rfl⟩ := hcs
    refine ⟨none, 0, 0, [], rfl, Nat.le_refl _, ⟨rfl, by omega, fun h => absurd h (by omega), by simp, by simp⟩, ?_⟩
    rw [(Prod.mk.inj hx).1]
    simp [sumB, Rows.uptoBulk]
  · simp [Value.cells] at hcs
    obtain ⟨rfl, rfl, rfl⟩ := hcs
    unfold maxLen at hm
    simp at hmm
    subst hmm
    have one : ∀ j, j < n → ∃ o : O, ((W.cell? (a.add (j * 5)) = some (.int .i64 o.kd) ∧ W.cell? (a.add (j * 5 + 1)) = some (.int .i64 o.f) ∧ W.cell? (a.add (j * 5 + 2)) = some (.int .i64 o.n) ∧ W.cell? (a.add (j * 5 + 3)) = some (.int .i64 o.k) ∧ W.cell? (a.add (j * 5 + 4)) = some (.slice o.A o.m o.c)) ∧ RdB W o.A o.m o.ys ∧ o.I) ∧ o.ys.length + 1 ≤ Rows.uptoBulk (D j) := by
      intro j hj
      obtain ⟨cs', h1, h2⟩ := hx j (by omega)
      rw [hC] at h1
      obtain ⟨_, hlen, hcell⟩ := World.cells?_some h1
      obtain ⟨xs, k, hk, hxy, _, hxl, hel⟩ := DataW.trod_struct he h2
      match xs, hxl, cs', hlen with
      | [y0, y1, y2, y3, y4], _, [c0, c1, c2, c3, c4], _ =>
        have onei : ∀ (c : Value) (y : DataW H × List MemPlace), DataW.trod enc P W 0 (fun _ => true) true k ti [c] = some y → ∃ n, c = .int .i64 n ∧ -9223372036854775808 ≤ n ∧ n ≤ 9223372036854775807 := by
          intro c y h3
          obtain ⟨n, hn, _, hw⟩ := DataW.trod_int hi h3
          simp at hn
          exact ⟨n, hn, bounds_i64 hw⟩
        have ones : ∀ (c : Value) (y : DataW H × List MemPlace), DataW.trod enc P W 0 (fun _ => true) true k ts [c] = some y → ∃ (A : Option Addr) (m cc : Nat) (ys : List Int), c = .slice A m cc ∧ m ≤ cc ∧ RdB W A m ys ∧ ys.length + 1 ≤ Rows.uptoBulk y.1 := by
          intro c y h3
          rcases open_ints hs hb cb h3 with ⟨hcs, hx⟩ | ⟨x, l, c', zs, hcs, _, hl, hm, hz, hx, hcell, hwz⟩
          · simp at hcs
            subst hcs
            refine ⟨none, 0, 0, [], rfl, Nat.le_refl _, ⟨⟨rfl, by omega, fun h => absurd h (by omega)⟩, By_of _ (by simp)⟩, ?_⟩
            rw [(Prod.mk.inj hx).1]
            simp [Rows.uptoBulk]
          · simp at hcs
            subst hcs
            simp at hz
            unfold maxLen at hm
            refine ⟨some x, l, c', zs.take l, rfl, hl, ⟨⟨by rw [List.length_take]; omega, by omega, fun h0 => ⟨x, rfl, fun j hj => ?_⟩⟩, By_of _ fun y hy => bounds_u8 (hwz y (List.mem_of_mem_take hy))⟩, ?_⟩
            · rw [hcell j (by omega)]
              simp [List.getD_eq_getElem?_getD, List.getElem?_take, hj]
            · have := bulks.slice_le (H := H) (d := y.1) (n := (zs.take l).length) (.inr ⟨_, _, (Prod.mk.inj hx).1, by simp [lits]⟩)
              exact this
        have g0 := hel 0 f0 rfl
        have g1 := hel 1 f1 rfl
        have g2 := hel 2 f2 rfl
        have g3 := hel 3 f3 rfl
        have g4 := hel 4 f4 rfl
        simp [t0, t1, t2, t3, t4, o0, o1, o2, o3, o4, ci, cs1] at g0 g1 g2 g3 g4
        obtain ⟨n0, rfl, b0⟩ := onei _ _ g0
        obtain ⟨n1, rfl, b1⟩ := onei _ _ g1
        obtain ⟨n2, rfl, b2⟩ := onei _ _ g2
        obtain ⟨n3, rfl, b3⟩ := onei _ _ g3
        obtain ⟨A4, m4, c4, ys4, rfl, b4, r4, z4⟩ := ones _ _ g4
        have e0 := hcell 0 (by omega)
        have e1 := hcell 1 (by omega)
        have e2 := hcell 2 (by omega)
        have e3 := hcell 3 (by omega)
        have e4 := hcell 4 (by omega)
        rw [Deep.add_add] at e0 e1 e2 e3 e4
        refine ⟨⟨n0, n1, n2, n3, A4, m4, c4, ys4⟩, ⟨⟨by simpa using e0, by simpa using e1, by simpa using e2, by simpa using e3, by simpa using e4⟩, r4, ⟨b0, b1, b2, b3, b4⟩⟩, ?_⟩
        have hD : D j = .agg [y0.1, y1.1, y2.1, y3.1, y4.1] := (Prod.mk.inj hxy).1
        rw [hD]
        have := bulks.part_le (H := H) (d := y4.1) (l := [y0.1, y1.1, y2.1, y3.1, y4.1]) (by simp)
        simp only [Rows.uptoBulk]
        show ys4.length + 1 ≤ _
        omega
    haveI : Inhabited O := ⟨nilO⟩
    obtain ⟨q, hq⟩ := Deep.choose_lt one
    have hgd : ∀ j, j < n → ((List.range n).map q).getD j nilO = q j := fun j hj => by simp [List.getD_eq_getElem?_getD, hj]
    refine ⟨some a, n, m, (List.range n).map q, rfl, hl, ⟨by simp, by omega, fun h0 => ?_, fun o ho => ?_, fun o ho => ?_⟩, ?_⟩
    · have hs : a.spot = none := by
        have := World.cell?_spot (hq 0 h0).1.1.1
        simpa [Addr.add] using this
      obtain ⟨b, off, sp⟩ := a
      subst hs
      have ap : ∀ k, (⟨b, off, none⟩ : Addr).add k = ⟨b, off + k, none⟩ := fun k => by unfold Addr.add; split <;> simp_all
      refine ⟨b, off, rfl, fun j hj => ?_⟩
      rw [hgd j hj]
      obtain ⟨g0, g1, g2, g3, g4⟩ := (hq j hj).1.1
      rw [ap] at g0 g1 g2 g3 g4
      exact ⟨g0, by simpa [Nat.add_assoc] using g1, by simpa [Nat.add_assoc] using g2, by simpa [Nat.add_assoc] using g3, by simpa [Nat.add_assoc] using g4⟩
    · simp at ho
      obtain ⟨j, hj, rfl⟩ := ho
      exact (hq j hj).1.2.1
    · simp at ho
      obtain ⟨j, hj, rfl⟩ := ho
      exact (hq j hj).1.2.2
    · have := ops_all (H := H) ((List.range n).map D) ((List.range n).map q) (by simp) (fun j hj => by
        have hj' : j < n := by simpa using hj
        rw [hgd j hj', show ((List.range n).map D).getD j .nil = D j by simp [List.getD_eq_getElem?_getD, hj']]
        exact (hq j hj').2)
      rw [(Prod.mk.inj hx0).1]
      simp only [Rows.uptoBulk]
      simp only [List.length_map, List.length_range] at this
      omega
end
end Go.Proofs.Ytbmdglbhmianjaa.ops
