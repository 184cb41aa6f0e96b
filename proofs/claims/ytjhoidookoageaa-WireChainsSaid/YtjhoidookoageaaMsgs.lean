/- Slices of structs of five whole numbers: read, owned, opened. -/
import Derived.Test.YtjhoidookoageaaMsgShape
import Derived.Test.YtjhoidookoageaaWireWalk2
import Derived.Test.YtjhoidookoageaaWirePure2
import Derived.Test.YtjhoidookoageaaTakePure2
import Derived.Deep.Slices
set_option linter.unusedVariables false
set_option linter.unusedSimpArgs false
namespace Go.Proofs.Ytjhoidookoageaa.msgs
open Go.ChangeShapes Go.WideShapes Go.ChangeAt Go.RowKit Go.Proofs.YtjhoidookoageaaW.PrintWords Go.Proofs.Ytjhoidookoageaa.base Go.Proofs.Ytjhoidookoageaa.mem Go.Proofs.Ytjhoidookoageaa.wirep Go.Proofs.Ytjhoidookoageaa.wirew

def cellsM (m : M) : List Value := [.int .i64 m.k, .int .i64 m.o, .int .i64 m.d, .int .i64 m.u, .int .i64 m.v]
def RM (m : M) (cs : List Value) : Prop := cs = cellsM m
def nilM : M := ⟨0, 0, 0, 0, 0⟩
/-- five cells behind a place -/
def At (w : World) (b o : Nat) (m : M) : Prop := w.cell? ⟨b, o, none⟩ = some (.int .i64 m.k) ∧ w.cell? ⟨b, o + 1, none⟩ = some (.int .i64 m.o) ∧ w.cell? ⟨b, o + 2, none⟩ = some (.int .i64 m.d) ∧ w.cell? ⟨b, o + 3, none⟩ = some (.int .i64 m.u) ∧ w.cell? ⟨b, o + 4, none⟩ = some (.int .i64 m.v)
theorem At.below {w w1 : World} {b o : Nat} {m : M} (h : At w b o m) (hb : Below w.heap.size w w1) : At w1 b o m :=
  ⟨pw_cell_below hb h.1, pw_cell_below hb h.2.1, pw_cell_below hb h.2.2.1, pw_cell_below hb h.2.2.2.1, pw_cell_below hb h.2.2.2.2⟩
def RdM (w : World) (A : Option Addr) (n : Nat) (ms : List M) : Prop :=
  ms.length = n ∧ n ≤ 9223372036854775807 ∧ (0 < n → ∃ b off, A = some ⟨b, off, none⟩ ∧ ∀ j, j < n → At w b (off + j * 5) (ms.getD j nilM))
theorem RdM.below {w w1 : World} {A : Option Addr} {n : Nat} {ms : List M} (h : RdM w A n ms) (hb : Below w.heap.size w w1) : RdM w1 A n ms :=
  ⟨h.1, h.2.1, fun hn => by
    obtain ⟨b, off, e, hc⟩ := h.2.2 hn
    exact ⟨b, off, e, fun j hj => (hc j hj).below hb⟩⟩
theorem take_snocM (ms : List M) (k : Nat) (h : k < ms.length) : ms.take (k + 1) = ms.take k ++ [ms.getD k nilM] := by
  rw [List.take_add_one, List.getD_eq_getElem?_getD, List.getElem?_eq_getElem h]; rfl
theorem drop_consM (ms : List M) (k : Nat) (h : k < ms.length) : ms.drop k = ms.getD k nilM :: ms.drop (k + 1) := by
  rw [List.drop_eq_getElem_cons h, List.getD_eq_getElem?_getD, List.getElem?_eq_getElem h]; rfl
/-- one's own row of messages -/
def OwM (w : World) (base : Nat) (A : Option Addr) (n c : Nat) (ms : List M) : Prop := ms.length = n ∧ OwnRow RM 24 5 w base (.slice A n c) ms
section
variable {w w1 : World} {base n c : Nat} {A : Option Addr} {ms : List M}
theorem OwM.below (h : OwM w base A n c ms) (hb : Below w.heap.size w w1) : OwM w1 base A n c ms := ⟨h.1, h.2.below hb⟩
theorem OwM.nil (w : World) (base : Nat) : OwM w base none 0 0 [] := ⟨rfl, OwnRow.none_ _ _ _ _ _⟩
theorem OwM.rd (h : OwM w base A n c ms) : RdM w A n ms := by
  obtain ⟨hl, inner, ho, hr⟩ := h
  subst hl
  obtain ⟨A1, c1, he, h1, h2, h3⟩ := own_reads_row ho hr rfl
  injection he with e1 e2 e3
  subst e1
  refine ⟨rfl, h2, fun hn => ?_⟩
  obtain ⟨g, cap, hv, _, _⟩ := World.ownsRow.form ho hn
  injection hv with e4 e5 e6
  subst e4
  obtain ⟨ad, ha, hc⟩ := h3 hn
  injection ha with ha
  subst ha
  refine ⟨g, 0, rfl, fun j hj => ?_⟩
  obtain ⟨cs, _, hR, hcell⟩ := hc j (ms.getD j nilM) (by rw [List.getD_eq_getElem?_getD, List.getElem?_eq_getElem hj]; rfl)
  unfold RM at hR
  subst hR
  have e : ∀ i u, (cellsM (ms.getD j nilM))[i]? = some u → w.cell? ⟨g, 0 + j * 5 + i, none⟩ = some u := by
    intro i u hu
    have := hcell i u hu
    rw [Go.Proofs.YtjhoidookoageaaW.PrintWords.add_plain] at this
    rw [Nat.zero_add]
    exact this
  exact ⟨e 0 _ rfl, e 1 _ rfl, e 2 _ rfl, e 3 _ rfl, e 4 _ rfl⟩
theorem OwM.cap (h : OwM w base A n c ms) : n ≤ c := by
  obtain ⟨hl, inner, ho, hr⟩ := h
  have := own_le ho
  omega
end
theorem infoM : (Try.prog.info? 24).map (fun i => (i.zero, i.size, i.bytes)) = some (some (.agg #[.int .i64 0, .int .i64 0, .int .i64 0, .int .i64 0, .int .i64 0]), 5, 40) := by kernel_rfl
section
variable {ops : Array Oper} {rest : List Oper} {o : Oper} {a : Act} {Q : Exit → Act → World → Prop}
/-- append of one message: behind 'at_builtin' -/
theorem appM {w0 W : World} {base : Nat} (hgd : o.guard = none) (s x : Operand)
    (ho : o.op = .call { callee := .builtin .append, args := #[s, x], argTypes := #[37, 37] })
    {A : Option Addr} {n c : Nat} {ms : List M} (m : M) (hs : a.eval s = .slice A n c) (hx : a.eval x = .slice (some ⟨W.heap.size, 0, none⟩) 1 1)
    (HO : OwM W base A n c ms) (HB : Below base w0 W) (hbase : base ≤ W.heap.size) (hl : (n + 1) * 40 ≤ 140737488355328)
    (h : ∀ A1 c1 w1, OwM w1 base A1 (n + 1) c1 (ms ++ [m]) → Below base w0 w1 → W.grownBy w1 (Value.slice A n c).ownBlock → wpList Try.prog ops Q rest (a.put o.dst (.slice A1 (n + 1) c1)) w1) : wpList Try.prog ops Q (o :: rest) a (W.alloc (.cells #[.int .i64 m.k, .int .i64 m.o, .int .i64 m.d, .int .i64 m.u, .int .i64 m.v] 24)) := by
  show wpList Try.prog ops Q (o :: rest) a (W.alloc (.cells (cellsM m).toArray 24))
  obtain ⟨hln, HO⟩ := HO
  refine OwnRow.append (R := RM) (w0 := w0) (W := W) base hgd s x 37 24 _ 5 40 ho Try.underlying37 infoM rfl (by decide) (by decide) (.slice A n c) ms m (cellsM m) hs hx rfl rfl (by intro u hu; simp [cellsM] at hu; rcases hu with rfl | rfl | rfl | rfl | rfl <;> rfl) HO HB hbase (by rw [hln]; exact hl) ?_
  intro v1 w1 hown hb hg _
  obtain ⟨inner, ho1, hr1⟩ := hown
  obtain ⟨A1, c1, rfl⟩ := own_slice ho1
  have e : (ms ++ [m]).length = n + 1 := by simp [hln]
  rw [e] at ho1 ⊢
  exact h A1 c1 w1 ⟨e, inner, by rw [e]; exact ho1, hr1⟩ hb hg
end
section
variable {ops : Array Oper} {rest : List Oper} {o : Oper} {a : Act} {Q : Exit → Act → World → Prop}
/-- append of bytes, told which block grew: behind 'at_builtin' -/
theorem appB {w0 W : World} {base : Nat} (hgd : o.guard = none) (s x : Operand)
    (ho : o.op = .call { callee := .builtin .append, args := #[s, x], argTypes := #[22, 22] })
    {A : Option Addr} {n c : Nat} {xs : List Int} {A' : Option Addr} {m c' : Nat} {ys : List Int} (hs : a.eval s = .slice A n c) (hx : a.eval x = .slice A' m c')
    (HO : OwB W base A n c xs) (HR : RdB W A' m ys) (HB : Below base w0 W) (hbase : base ≤ W.heap.size) (hl : n + m ≤ 140737488355328)
    (h : ∀ A1 n1 c1 w1, OwB w1 base A1 n1 c1 (xs ++ ys) → Below base w0 w1 → W.grownBy w1 (Value.slice A n c).ownBlock → wpList Try.prog ops Q rest (a.put o.dst (.slice A1 n1 c1)) w1) : wpList Try.prog ops Q (o :: rest) a W := by
  refine print_append_row base hgd s x 22 5 .u8 1 ho Try.underlying22 infoB (by decide) (.slice A n c) xs ys A' m c' hs hx (by rw [HO.len]; exact HO.1) HR.1 HB hbase (by rw [HO.len]; omega) ?_
  intro v1 w1 ho hb hg _
  obtain ⟨A1, c1, rfl⟩ := own_slice ho
  exact h A1 _ c1 w1 ⟨ho, HO.2.append HR.2⟩ hb hg
end
section
variable {w w1 : World} {base n c base2 n2 c2 : Nat} {A A2 : Option Addr} {xs : List Int} {ms : List M}
theorem apartBM (h : OwB w base A n c xs) (k : OwM w base2 A2 n2 c2 ms) : (Value.slice A n c).ownBlock = none ∨ (Value.slice A n c).ownBlock ≠ (Value.slice A2 n2 c2).ownBlock := by
  obtain ⟨_, h2⟩ := h.1
  rcases h2 with ⟨h3, _⟩ | ⟨g, cap, cur, hv, hb, hh, _⟩
  · injection h3 with h3; subst h3; exact .inl rfl
  · injection hv with h3
    subst h3
    obtain ⟨_, inner, ho, _⟩ := k
    exact .inr (own_ne ho hh (by decide))
theorem OwB.otherM (h : OwB w base A n c xs) (k : OwM w base2 A2 n2 c2 ms) (hg : w.grownBy w1 (Value.slice A2 n2 c2).ownBlock) : OwB w1 base A n c xs := ⟨own_other h.1 hg (apartBM h k), h.2⟩
theorem OwM.otherB (k : OwM w base2 A2 n2 c2 ms) (h : OwB w base A n c xs) (hg : w.grownBy w1 (Value.slice A n c).ownBlock) : OwM w1 base2 A2 n2 c2 ms := by
  refine ⟨k.1, k.2.other hg ?_⟩
  rcases apartBM h k with h1 | h1
  · by_cases h2 : (Value.slice A2 n2 c2).ownBlock = none
    · exact .inl h2
    · exact .inr (by rw [h1]; exact h2)
  · exact .inr (Ne.symm h1)
theorem OwM.blk (k : OwM w base2 A2 n2 c2 ms) : ∀ j, (Value.slice A2 n2 c2).ownBlock = some j → j < w.heap.size := by
  obtain ⟨_, inner, ho, _⟩ := k
  exact fun j hj => (ho.lt j hj).2
theorem boxGrown {b : Nat} {m : M} {row : Option Nat} (h : Box w b m) (hg : w.grownBy w1 row) (hne : ∀ j, row = some j → j < b) : Box w1 b m := by
  have ne : some b ≠ row := fun e => by have := hne b e.symm; omega
  exact ⟨hg.cell h.1 ne, hg.cell h.2.1 ne, hg.cell h.2.2.1 ne, hg.cell h.2.2.2.1 ne, hg.cell h.2.2.2.2 ne⟩
end
theorem filter_snoc (ms : List M) (m : M) : (ms ++ [m]).filter M.valid = ms.filter M.valid ++ (if m.valid then [m] else []) := by
  rw [List.filter_append]
  cases hv : m.valid <;> simp [hv]
/-- the bytes of messages one behind the other -/
def encs (ms : List M) : List Int := ms.flatMap M.enc
theorem encs_nil : encs [] = [] := rfl
theorem encs_snoc (ms : List M) (m : M) : encs (ms ++ [m]) = encs ms ++ m.enc := by simp [encs]
theorem encs_cons (m : M) (ms : List M) : encs (m :: ms) = m.enc ++ encs ms := rfl
theorem encs_good (ms : List M) : encs (ms.filter M.valid) = encs ms := by
  induction ms with
  | nil => rfl
  | cons m ms ih =>
    by_cases hv : m.valid = true
    · rw [List.filter_cons_of_pos hv, encs_cons, encs_cons, ih]
    · rw [List.filter_cons_of_neg hv, encs_cons, ih, M.enc_none (by simpa using hv), List.nil_append]
theorem enc_short (m : M) : m.enc.length ≤ 45 := by
  cases hv : m.valid
  · rw [M.enc_none hv]; decide
  · exact (M.enc_len hv).2
theorem encs_len (ms : List M) : (encs ms).length ≤ 45 * ms.length := by
  induction ms with
  | nil => simp [encs]
  | cons m ms ih =>
    rw [encs_cons, List.length_append, List.length_cons]
    have := enc_short m
    omega
section
variable {H : Type} {enc : TypeId × Value → H} {P : Program} {W : World} {base : Nat}
theorem openMsgs {t e ti : TypeId} {f0 f1 f2 f3 f4 : Field} {v : Value} {d : DataW H} {ps : List MemPlace} (ht : P.underlying t = some (.slice e)) (he : P.underlying e = some (.struct #[f0, f1, f2, f3, f4])) (hi : P.underlying ti = some (.int .i64)) (ci : P.cellsOf ti = 1) (hC : P.cellsOf e = 5)
    (hT : [f0, f1, f2, f3, f4].map (fun f => (f.type, f.offset)) = [(ti, 0), (ti, 1), (ti, 2), (ti, 3), (ti, 4)])
    (hv : Value.okWide P W .any base t v) (h : DataW.Trod enc P W 0 (fun _ => true) true t v d ps) :
    ∃ (A : Option Addr) (n c : Nat) (ms : List M), v = .slice A n c ∧ n ≤ c ∧ RdM W A n ms ∧ ∀ m ∈ ms, m.I := by
  obtain ⟨A, n, c, rfl⟩ := okWide_slice ht hv
  obtain ⟨fuel, hf⟩ := h
  simp only [List.map_cons, List.map_nil, List.cons.injEq, Prod.mk.injEq, and_true] at hT
  obtain ⟨⟨t0, o0⟩, ⟨t1, o1⟩, ⟨t2, o2⟩, ⟨t3, o3⟩, t4, o4⟩ := hT
  rcases Deep.open_slice ht hf with ⟨hcs, hx⟩ | ⟨a, l, cap, m, fu, D, Pl, hcs, _, hl, hm, hmm, _, hx⟩
  · simp [Value.cells] at hcs
    obtain ⟨rfl, rfl, rfl⟩ := hcs
    exact ⟨none, 0, 0, [], rfl, Nat.le_refl _, ⟨rfl, by omega, fun h => absurd h (by omega)⟩, by simp⟩
  · simp [Value.cells] at hcs
    obtain ⟨rfl, rfl, rfl⟩ := hcs
    unfold maxLen at hm
    simp at hmm
    subst hmm
    have one : ∀ j, j < n → ∃ p : M, (W.cell? (a.add (j * 5)) = some (.int .i64 p.k) ∧ W.cell? (a.add (j * 5 + 1)) = some (.int .i64 p.o) ∧ W.cell? (a.add (j * 5 + 2)) = some (.int .i64 p.d) ∧ W.cell? (a.add (j * 5 + 3)) = some (.int .i64 p.u) ∧ W.cell? (a.add (j * 5 + 4)) = some (.int .i64 p.v)) ∧ p.I := by
      intro j hj
      obtain ⟨cs', h1, h2⟩ := hx j (by omega)
      rw [hC] at h1
      obtain ⟨_, hlen, hcell⟩ := World.cells?_some h1
      obtain ⟨xs, k, hk, hxy, _, hxl, hel⟩ := DataW.trod_struct he h2
      match xs, hxl, cs', hlen with
      | [y0, y1, y2, y3, y4], _, [c0, c1, c2, c3, c4], _ =>
        have onei : ∀ (c : Value) (y : DataW H × List MemPlace), DataW.trod enc P W 0 (fun _ => true) true k ti [c] = some y → ∃ n, c = .int .i64 n ∧ -9223372036854775808 ≤ n ∧ n ≤ 9223372036854775807 := by
          intro c y h3
          obtain ⟨n, hn, _, hw⟩ := DataW.trod_int hi h3
          simp at hn
          exact ⟨n, hn, bounds_i64 hw⟩
        have g0 := hel 0 f0 rfl
        have g1 := hel 1 f1 rfl
        have g2 := hel 2 f2 rfl
        have g3 := hel 3 f3 rfl
        have g4 := hel 4 f4 rfl
        simp [t0, t1, t2, t3, t4, o0, o1, o2, o3, o4, ci] at g0 g1 g2 g3 g4
        obtain ⟨n0, rfl, b0⟩ := onei _ _ g0
        obtain ⟨n1, rfl, b1⟩ := onei _ _ g1
        obtain ⟨n2, rfl, b2⟩ := onei _ _ g2
        obtain ⟨n3, rfl, b3⟩ := onei _ _ g3
        obtain ⟨n4, rfl, b4⟩ := onei _ _ g4
        have e0 := hcell 0 (by omega)
        have e1 := hcell 1 (by omega)
        have e2 := hcell 2 (by omega)
        have e3 := hcell 3 (by omega)
        have e4 := hcell 4 (by omega)
        rw [Deep.add_add] at e0 e1 e2 e3 e4
        exact ⟨⟨n0, n1, n2, n3, n4⟩, ⟨by simpa using e0, by simpa using e1, by simpa using e2, by simpa using e3, by simpa using e4⟩, b0, b1, b2, b3, b4⟩
    haveI : Inhabited M := ⟨nilM⟩
    obtain ⟨q, hq⟩ := Deep.choose_lt one
    refine ⟨some a, n, m, (List.range n).map q, rfl, hl, ⟨by simp, by omega, fun h0 => ?_⟩, fun y hy => ?_⟩
    · have hs : a.spot = none := by
        have := World.cell?_spot (hq 0 h0).1.1
        simpa [Addr.add] using this
      obtain ⟨b, off, sp⟩ := a
      subst hs
      have ap : ∀ k, (⟨b, off, none⟩ : Addr).add k = ⟨b, off + k, none⟩ := fun k => by unfold Addr.add; split <;> simp_all
      refine ⟨b, off, rfl, fun j hj => ?_⟩
      obtain ⟨⟨g0, g1, g2, g3, g4⟩, _⟩ := hq j hj
      rw [ap] at g0 g1 g2 g3 g4
      have ej : ((List.range n).map q).getD j nilM = q j := by simp [List.getD_eq_getElem?_getD, hj]
      rw [ej]
      exact ⟨g0, by simpa [Nat.add_assoc] using g1, by simpa [Nat.add_assoc] using g2, by simpa [Nat.add_assoc] using g3, by simpa [Nat.add_assoc] using g4⟩
    · simp at hy
      obtain ⟨j, hj, rfl⟩ := hy
      exact (hq j hj).2
end
end Go.Proofs.Ytjhoidookoageaa.msgs
