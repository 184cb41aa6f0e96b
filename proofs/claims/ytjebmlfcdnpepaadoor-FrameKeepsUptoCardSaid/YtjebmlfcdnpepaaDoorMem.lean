/- Words for slices of bytes that the call itself owns: append, store, read. -/
import Derived.Test.YtjebmlfcdnpepaaDoorBase
import Derived.WalkSpells
set_option linter.unusedVariables false
set_option linter.unusedSimpArgs false
namespace Go.Proofs.YtjebmlfcdnpepaaDoor.mem
open Go.RowKit Go.Proofs.YtjebmlfcdnpepaaDoorW.PrintWords Go.Proofs.YtjebmlfcdnpepaaDoor.base

theorem infoB : (Tryd.prog.info? 5).map (fun i => (i.zero, i.size, i.bytes)) = some (some (.int .u8 0), 1, 1) := by kernel_rfl

/-- the call's own slice of bytes, in blocks from base on -/
def OwB (w : World) (base : Nat) (A : Option Addr) (n c : Nat) (xs : List Int) : Prop := w.ownsRow base 5 1 (.slice A n c) n (nums .u8 xs) ∧ By xs
section
variable {w w1 : World} {base n c : Nat} {A : Option Addr} {xs : List Int}
theorem OwB.len (h : OwB w base A n c xs) : xs.length = n := by have := h.1.1; simp [nums] at this; exact this
theorem OwB.rd (h : OwB w base A n c xs) : RdB w A n xs := ⟨own_reads' h.1, h.2⟩
theorem OwB.below (h : OwB w base A n c xs) (hb : Below w.heap.size w w1) : OwB w1 base A n c xs := ⟨pw_own_below h.1 hb, h.2⟩
theorem OwB.alloc (h : OwB w base A n c xs) (o : Obj) : OwB (w.alloc o) base A n c xs := ⟨own_alloc h.1 o, h.2⟩
theorem OwB.drawn (h : OwB w base A n c xs) (k : Nat) : OwB (w.drewN k) base A n c xs := ⟨pw_own_drewN h.1 k, h.2⟩
theorem OwB.less {b : Nat} (h : OwB w base A n c xs) (hb : b ≤ base) : OwB w b A n c xs := ⟨own_less h.1 hb, h.2⟩
theorem OwB.lit0 (w : World) (base : Nat) (hb : base ≤ w.heap.size) : OwB (w.alloc (.cells #[] 5)) base (some ⟨w.heap.size, 0, none⟩) 0 0 [] := ⟨own_lit w base 5 .u8 [] hb (by simp), By_of _ (by simp)⟩
theorem OwB.nil (w : World) (base : Nat) : OwB w base none 0 0 [] := ⟨own_nil w base 5 1, By_of _ (by simp)⟩
theorem OwB.cap (h : OwB w base A n c xs) : n ≤ c := by
  rcases h.1.2 with ⟨h1, _⟩ | ⟨g, cap, cur, hv, _, _, h1, h2, _⟩
  · injection h1 with _ h2 h3; omega
  · injection hv with _ _ h3; omega
theorem OwB.form (h : OwB w base A n c xs) (hn : 0 < n) : ∃ g, A = some ⟨g, 0, none⟩ ∧ base ≤ g ∧ g < w.heap.size := by
  obtain ⟨g, cap, hv, hgb, hgl⟩ := h.1.form hn
  injection hv with h1 h2 h3
  exact ⟨g, h1, hgb, hgl⟩
theorem OwB.at_ {g : Nat} (h : OwB w base (some ⟨g, 0, none⟩) n c xs) (i : Nat) (h1 : i < n) : w.cell? ⟨g, i, none⟩ = some (.int .u8 (xs.getD i 0)) ∧ w.frozen? ⟨g, i, none⟩ = false := by
  have := own_at h.1 i (by omega) (by omega)
  rw [show ((i : Int)).toNat = i from by omega] at this
  exact this
theorem OwB.store {g : Nat} (h : OwB w base (some ⟨g, 0, none⟩) n c xs) (i : Nat) (x : Int) (hx : 0 ≤ x ∧ x ≤ 255) : OwB (w.setCell ⟨g, i, none⟩ (.int .u8 x)) base (some ⟨g, 0, none⟩) n c (xs.set i x) := by
  refine ⟨(own_store h.1 i x).1, By_of _ fun y hy => ?_⟩
  rcases List.mem_or_eq_of_mem_set hy with h1 | h1
  · exact h.2.mem y h1
  · rw [h1]; exact hx
end
/-- bytes of a literal that is handed on: 'append(v, 7)', 'append(v, 1, 2, 3)' -/
theorem litB (w : World) (fr : Nat × Nat) (xs : List Int) (h : xs.length ≤ 9223372036854775807) (hb : By xs) : RdB (w.alloc (.cells (nums .u8 xs).toArray 5 fr)) (some ⟨w.heap.size, 0, none⟩) xs.length xs := ⟨lit_reads w _ fr xs h, hb⟩

theorem litB_at (w : World) (s : Nat) (hs : w.heap.size = s) (fr : Nat × Nat) (xs : List Int) (h : xs.length ≤ 9223372036854775807) (hb : By xs) : RdB (w.alloc (.cells (nums .u8 xs).toArray 5 fr)) (some ⟨s, 0, none⟩) xs.length xs := by subst hs; exact litB w fr xs h hb
theorem nilB (w : World) : RdB w none 0 [] := ⟨⟨rfl, by omega, fun h => absurd h (by omega)⟩, By_of _ (by simp)⟩

section
variable {ops : Array Oper} {rest : List Oper} {o : Oper} {a : Act} {Q : Exit → Act → World → Prop}
/-- append: behind 'at_builtin' -/
theorem app {w0 W : World} {base : Nat} (hgd : o.guard = none) (s x : Operand)
    (ho : o.op = .call { callee := .builtin .append, args := #[s, x], argTypes := #[22, 22] })
    {A : Option Addr} {n c : Nat} {xs : List Int} {A' : Option Addr} {m c' : Nat} {ys : List Int} (hs : a.eval s = .slice A n c) (hx : a.eval x = .slice A' m c')
    (HO : OwB W base A n c xs) (HR : RdB W A' m ys) (HB : Below base w0 W) (hbase : base ≤ W.heap.size) (hl : n + m ≤ 140737488355328)
    (h : ∀ A1 n1 c1 w1, OwB w1 base A1 n1 c1 (xs ++ ys) → Below base w0 w1 → wpList Tryd.prog ops Q rest (a.put o.dst (.slice A1 n1 c1)) w1) : wpList Tryd.prog ops Q (o :: rest) a W := by
  refine print_append_row base hgd s x 22 5 .u8 1 ho Tryd.underlying22 infoB (by decide) (.slice A n c) xs ys A' m c' hs hx (by rw [HO.len]; exact HO.1) HR.1 HB hbase (by rw [HO.len]; omega) ?_
  intro v1 w1 ho hb _ _
  obtain ⟨A1, c1, rfl⟩ := own_slice ho
  exact h A1 _ c1 w1 ⟨ho, HO.2.append HR.2⟩ hb
end
section
variable {ops : Array Oper} {rest : List Oper} {o : Oper} {a : Act} {Q : Exit → Act → World → Prop}
theorem numsRd {W : World} {ad : Addr} {n : Nat} {xs : List Int} (h : RdB W (some ad) n xs) : ∀ j u, (nums .u8 xs)[j]? = some u → W.cell? (ad.add j) = some u := by
  intro j u hu
  have hl := h.len
  have hj : j < xs.length := by
    rcases Nat.lt_or_ge j xs.length with h' | h'
    · exact h'
    · simp [nums, List.getElem?_eq_none h'] at hu
  obtain ⟨ad', he, hc⟩ := h.at_ j (by omega)
  injection he with he
  subst he
  rw [hc]
  simp [nums, List.getElem?_eq_getElem hj] at hu
  subst hu
  simp [List.getD_eq_getElem?_getD, List.getElem?_eq_getElem hj]
/-- append to a slice that is full (a cut with three indexes): a new row, or nothing is appended: behind 'at_builtin' -/
theorem appFull {w0 W : World} {base : Nat} (hgd : o.guard = none) (s x : Operand)
    (ho : o.op = .call { callee := .builtin .append, args := #[s, x], argTypes := #[22, 22] })
    {A : Option Addr} {n : Nat} {xs : List Int} {A' : Option Addr} {m c' : Nat} {ys : List Int} (hs : a.eval s = .slice A n n) (hx : a.eval x = .slice A' m c')
    (HS : RdB W A n xs) (HR : RdB W A' m ys) (HB : Below base w0 W) (hbase : base ≤ W.heap.size) (hl : n + m ≤ 140737488355328)
    (h : ∀ A1 n1 c1 w1, RdB w1 A1 n1 (xs ++ ys) → n1 ≤ c1 → Below base w0 w1 → wpList Tryd.prog ops Q rest (a.put o.dst (.slice A1 n1 c1)) w1) : wpList Tryd.prog ops Q (o :: rest) a W := by
  obtain ⟨i0, hi, hzz⟩ := Option.map_eq_some_iff.1 infoB
  simp only [Prod.mk.injEq] at hzz
  obtain ⟨hz0, hz1, hz2⟩ := hzz
  rcases Nat.eq_zero_or_pos m with h0 | h0
  · subst h0
    obtain rfl : ys = [] := List.eq_nil_of_length_eq_zero HR.len
    have hrun : (Builtin.append_ #[22, 22] o.type #[.slice A n n, .slice A' 0 c']).run Tryd.prog W = .ok (.slice A n n) W := by
      cases A <;> cases A' <;> simp [Builtin.append_, run_underlying Tryd.underlying22, sizeOf, typeInfo, hi, Builtin.lenOf, Builtin.firstCells, storeCells, loadCells, loadCellsFrom, Result.andThen]
    refine wpList_plain hgd fun K hK => ?_
    unfold Oper.wp execOp
    simp only [ho, resolve, invoke, builtin, Sem.run_bind, Sem.run_pure, Result.andThen_ok, List.map_toArray, List.map_cons, List.map_nil, hs, hx, hrun]
    exact hK _ _ (h A n n W (by rw [List.append_nil]; exact HS) (Nat.le_refl _) HB)
  · obtain ⟨ad, rfl, _⟩ := HR.at_ 0 h0
    refine wpList_append_grows (P := Tryd.prog) W hgd s x 22 ho 5 i0 (.int .u8 0) 1 1 Tryd.underlying22 hi hz0 hz1 hz2 rfl (by decide) A n n (nums .u8 xs) hs (fun hn => ?_) (by rw [nums_length, HS.len]; omega) (fun b hb => by subst hb; exact numsRd HS) ad m c' (nums .u8 ys) hx (by rw [nums_length, HR.len]; omega) (numsRd HR) (by intro u hu; simp only [nums, List.mem_map] at hu; obtain ⟨q, _, rfl⟩ := hu; rfl) (by omega) (by unfold maxLen; omega) (by omega) ?_
    · rcases Nat.eq_zero_or_pos n with h1 | h1
      · exact ⟨h1, h1⟩
      · obtain ⟨ad', he, _⟩ := HS.at_ 0 h1
        rw [hn] at he; cases he
    · intro v' w' hown hg
      obtain ⟨A1, c1, rfl⟩ := own_slice hown
      have hO : OwB w' W.heap.size A1 (n + m) c1 (xs ++ ys) := ⟨by rw [nums_append]; exact hown, HS.2.append HR.2⟩
      exact h A1 _ c1 w' hO.rd hO.cap (HB.grown hg hbase (fun k hk => by cases hk))
end
/-- string(b) -/
theorem str {w : World} {A : Option Addr} {n : Nat} {xs : List Int} (h : RdB w A n xs) (q c : Nat) : (convert 22 9 (.slice A n c)).run Tryd.prog (w.drewN q) = .ok (.string (strOfNums xs)) (w.drewN q) :=
  string_of_reads Tryd.underlying22 Tryd.underlying5 Tryd.underlying9 (h.drawn q).1
/-! ### cuts -/
theorem infoBi : ∃ i, Tryd.prog.info? 5 = some i ∧ i.size = 1 := by
  obtain ⟨i, hi, hz⟩ := Option.map_eq_some_iff.1 infoB
  simp only [Prod.mk.injEq] at hz
  exact ⟨i, hi, hz.2.1⟩
/-- b[m:] -/
theorem cutL (A : Option Addr) (n c m : Nat) (hm : m ≤ n) (hc : n ≤ c) :
    ∃ A' n' c', (∀ W : World, (Instr.slice 22 (.slice A n c) (some (.int .i64 (m : Int))) none none).run Tryd.prog W = .ok (.slice A' n' c') W) ∧ n' + m ≤ n ∧ n ≤ n' + m ∧ n' ≤ c' ∧
      ∀ (w : World) (xs : List Int), RdB w A n xs → RdB w A' n' (xs.drop m) := by
  obtain ⟨i, hi, hs⟩ := infoBi
  obtain ⟨A', h1, h2⟩ := print_cut (P := Tryd.prog) 22 5 .i64 Tryd.underlying22 hi hs A n c m hm
  exact ⟨A', n - m, c - m, h1, by omega, by omega, by omega, fun w xs h => ⟨h2 w .u8 xs hc h.1, h.2.drop m⟩⟩
/-- b[l:h] -/
theorem cutLH (A : Option Addr) (n c l h : Nat) (hl : l ≤ h) (hh : h ≤ n) (hc : n ≤ c) :
    ∃ A' n' c', (∀ W : World, (Instr.slice 22 (.slice A n c) (some (.int .i64 (l : Int))) (some (.int .i64 (h : Int))) none).run Tryd.prog W = .ok (.slice A' n' c') W) ∧ n' + l ≤ h ∧ h ≤ n' + l ∧ n' ≤ c' ∧
      ∀ (w : World) (xs : List Int), RdB w A n xs → RdB w A' n' ((xs.take h).drop l) := by
  obtain ⟨i, hi, hs⟩ := infoBi
  obtain ⟨A', h1, h2⟩ := print_cut (P := Tryd.prog) 22 5 .i64 Tryd.underlying22 hi hs A h c l hl
  refine ⟨A', h - l, c - l, fun W => ?_, by omega, by omega, by omega, fun w xs hr => ⟨h2 w .u8 _ (by omega) (hr.1.take_ h hh), (hr.2.take h).drop l⟩⟩
  have e1 := h1 W
  have hel : Tryd.prog.elem 22 = 5 := by kernel_rfl
  have hu : Tryd.prog.underlying 22 = some (.slice (Tryd.prog.elem 22)) := by rw [hel]; exact Tryd.underlying22
  rw [run_slice_lh W _ A n c hu .i64 .i64 l h (by omega) (by omega) (by omega)]
  rw [run_slice_l W _ A h c hu .i64 l (by omega) (by omega)] at e1
  rw [← e1]
  rfl
/-! ### the call's own slice of slices of bytes -/
theorem infoS : (Tryd.prog.info? 22).map (fun i => (i.zero, i.size, i.bytes)) = some (some (.slice none 0 0), 1, 24) := by kernel_rfl
def OwV (w : World) (base : Nat) (A : Option Addr) (n c : Nat) (cells : List Value) : Prop := w.ownsRow base 22 1 (.slice A n c) n cells
/-- what the cells are: slices of bytes that are read -/
def RowsOf (w : World) (cells : List Value) (xss : List (List Int)) : Prop := cells.length = xss.length ∧ ∀ j, j < xss.length → ∃ a m c, cells[j]? = some (.slice a m c) ∧ m ≤ c ∧ RdB w a m (xss.getD j [])
theorem RowsOf.below {w w1 : World} {cells : List Value} {xss : List (List Int)} (h : RowsOf w cells xss) (hb : Below w.heap.size w w1) : RowsOf w1 cells xss :=
  ⟨h.1, fun j hj => by obtain ⟨a, m, c, h1, h2, h3⟩ := h.2 j hj; exact ⟨a, m, c, h1, h2, h3.below hb⟩⟩
theorem RowsOf.nil (w : World) : RowsOf w [] [] := ⟨rfl, fun j hj => absurd hj (by simp)⟩
theorem RowsOf.snoc {w : World} {cells : List Value} {xss : List (List Int)} (h : RowsOf w cells xss) {a : Option Addr} {m c : Nat} {xs : List Int} (hc : m ≤ c) (hr : RdB w a m xs) : RowsOf w (cells ++ [.slice a m c]) (xss ++ [xs]) := by
  refine ⟨by simp [h.1], fun j hj => ?_⟩
  rcases Nat.lt_or_ge j xss.length with hlt | hge
  · obtain ⟨a', m', c', h1, h2, h3⟩ := h.2 j hlt
    refine ⟨a', m', c', by rw [List.getElem?_append_left (by rw [h.1]; exact hlt)]; exact h1, h2, ?_⟩
    rw [List.getD_eq_getElem?_getD, List.getElem?_append_left hlt, ← List.getD_eq_getElem?_getD]; exact h3
  · obtain rfl : j = xss.length := by simp at hj; omega
    refine ⟨a, m, c, by rw [← h.1]; simp, hc, ?_⟩
    simpa [List.getD_eq_getElem?_getD] using hr
theorem OwV.nil (w : World) (base : Nat) : OwV w base none 0 0 [] := own_nil w base 22 1
theorem OwV.len {w : World} {base n c : Nat} {A : Option Addr} {cells : List Value} (h : OwV w base A n c cells) : cells.length = n := by have := h.1; simpa using this
theorem OwV.below {w w1 : World} {base n c : Nat} {A : Option Addr} {cells : List Value} (h : OwV w base A n c cells) (hb : Below w.heap.size w w1) : OwV w1 base A n c cells := pw_own_below h hb
theorem OwV.rd {w : World} {base n c : Nat} {A : Option Addr} {cells : List Value} {xss : List (List Int)} (h : OwV w base A n c cells) (hr : RowsOf w cells xss) (hn : n ≤ 9223372036854775807) : RdBB w A n xss := by
  have hl := h.len
  refine ⟨by rw [← hr.1, hl], hn, fun h0 => ?_⟩
  obtain ⟨g, cap, hv, _, _⟩ := World.ownsRow.form h h0
  injection hv with h1 h2 h3
  subst h1
  refine ⟨_, rfl, fun j hj => ?_⟩
  obtain ⟨a, m, c', e1, e2, e3⟩ := hr.2 j (by rw [← hr.1, hl]; exact hj)
  exact ⟨a, m, c', World.ownsRow.cells h (g := g) rfl j _ e1, e2, e3⟩
section
variable {ops : Array Oper} {rest : List Oper} {o : Oper} {a : Act} {Q : Exit → Act → World → Prop}
/-- append of one slice: behind 'at_builtin' -/
theorem appV {w0 W : World} {base : Nat} (hgd : o.guard = none) (s x : Operand)
    (ho : o.op = .call { callee := .builtin .append, args := #[s, x], argTypes := #[29, 29] })
    {A : Option Addr} {n c : Nat} {cells : List Value} {A' : Option Addr} {m c' : Nat} (hs : a.eval s = .slice A n c) (hx : a.eval x = .slice (some ⟨W.heap.size, 0, none⟩) 1 1)
    (HO : OwV W base A n c cells) (HB : Below base w0 W) (hbase : base ≤ W.heap.size) (hl : (n + 1) * 24 ≤ 140737488355328)
    (h : ∀ A1 n1 c1 w1, OwV w1 base A1 n1 c1 (cells ++ [.slice A' m c']) → Below base w0 w1 → W.grownBy w1 (Value.slice A n c).ownBlock → wpList Tryd.prog ops Q rest (a.put o.dst (.slice A1 n1 c1)) w1) : wpList Tryd.prog ops Q (o :: rest) a (W.alloc (.cells #[.slice A' m c'] 22)) := by
  refine print_append base hgd s x 29 22 (.slice none 0 0) 24 ho Tryd.underlying29 infoS rfl (by decide) (.slice A n c) cells (.slice A' m c') hs hx rfl (by rw [HO.len]; exact HO) HB hbase (by rw [HO.len]; exact hl) ?_
  intro v1 w1 ho hb hg _
  obtain ⟨A1, c1, rfl⟩ := own_slice ho
  exact h A1 _ c1 w1 ho hb hg
end
end Go.Proofs.YtjebmlfcdnpepaaDoor.mem
