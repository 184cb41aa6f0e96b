/- What gram's Take and Decode compute: plain Lean; a datagram's own block. -/
import Derived.Test.YtobkcedmjeidfaaDoorGramWalk4
import Derived.Test.YtobkcedmjeidfaaDoorTakeWalk3
import Derived.Test.YtobkcedmjeidfaaDoorTakePure2
import Derived.Test.YtobkcedmjeidfaaDoorGramPure2
set_option linter.unusedVariables false
set_option linter.unusedSimpArgs false
namespace Go.Proofs.YtobkcedmjeidfaaDoor.gtake
open Go.RowKit Go.Proofs.YtobkcedmjeidfaaDoorW.PrintWords Go.Proofs.YtobkcedmjeidfaaDoor.base Go.Proofs.YtobkcedmjeidfaaDoor.mem Go.Proofs.YtobkcedmjeidfaaDoor.packp Go.Proofs.YtobkcedmjeidfaaDoor.packw Go.Proofs.YtobkcedmjeidfaaDoor.samew Go.Proofs.YtobkcedmjeidfaaDoor.wirep Go.Proofs.YtobkcedmjeidfaaDoor.wirew Go.Proofs.YtobkcedmjeidfaaDoor.takew Go.Proofs.YtobkcedmjeidfaaDoor.gramp Go.Proofs.YtobkcedmjeidfaaDoor.gramw

structure GRes where
  g : G
  n : Nat
  e : Int
def noG : G := ⟨0, 0, 0, 0, ⟨0, 0, 0, 0, 0⟩⟩
def GRes.val (r : GRes) : Value := .tuple #[r.g.agg, .int .i64 r.n, .int .i64 r.e]
def gfin (g : G) (p : Nat) : GRes := if g.valid then ⟨g, p, 0⟩ else ⟨noG, 0, 31⟩
def mkG (zs : List Int) (m : M) : G := ⟨zs.getD 0 0, zs.getD 1 0, zs.getD 2 0, zs.getD 3 0, m⟩
def gend (xs zs : List Int) (p : Nat) : GRes :=
  if 0 < zs.getD 3 0 then (if (takeM (xs.drop p)).e = 0 then gfin (mkG zs (takeM (xs.drop p)).m) (p + (takeM (xs.drop p)).n) else ⟨noG, 0, (takeM (xs.drop p)).e⟩) else gfin (mkG zs ⟨0, 0, 0, 0, 0⟩) p
def gres (xs : List Int) : Nat → List Int → Nat → GRes
  | 0, zs, p => gend xs zs p
  | f + 1, zs, p => if (dec 0 (xs.drop p)).2 = 0 then ⟨noG, 0, fault (xs.drop p)⟩ else gres xs f (zs ++ [(dec 0 (xs.drop p)).1]) (p + (dec 0 (xs.drop p)).2)
def takeG (xs : List Int) : GRes := gres xs 4 [] 0
theorem gres_short {xs : List Int} {f : Nat} {zs : List Int} {p : Nat} (h : (dec 0 (xs.drop p)).2 = 0) : gres xs (f + 1) zs p = ⟨noG, 0, fault (xs.drop p)⟩ := by
  rw [gres, if_pos h]
theorem gres_step {xs : List Int} {f : Nat} {zs : List Int} {p n : Nat} {x : Int} (hx : (dec 0 (xs.drop p)).1 = x) (hn : (dec 0 (xs.drop p)).2 = n) (h : n ≠ 0) : gres xs (f + 1) zs p = gres xs f (zs ++ [x]) (p + n) := by
  rw [gres, if_neg (by rw [hn]; exact h), hx, hn]
theorem gend_bare {xs zs : List Int} {p : Nat} (h : ¬ 0 < zs.getD 3 0) : gend xs zs p = gfin (mkG zs ⟨0, 0, 0, 0, 0⟩) p := by unfold gend; rw [if_neg h]
theorem gend_told {xs zs : List Int} {p q : Nat} {m : M} (h : 0 < zs.getD 3 0) (ht : takeM (xs.drop p) = ⟨m, q, 0⟩) : gend xs zs p = gfin (mkG zs m) (p + q) := by
  unfold gend; rw [if_pos h, ht, if_pos rfl]
theorem gend_bad {xs zs : List Int} {p q : Nat} {m : M} {e : Int} (h : 0 < zs.getD 3 0) (ht : takeM (xs.drop p) = ⟨m, q, e⟩) (he : e ≠ 0) : gend xs zs p = ⟨noG, 0, e⟩ := by
  unfold gend; rw [if_pos h, ht, if_neg he]
theorem gfin_good {g : G} {p : Nat} (h : g.valid = true) : gfin g p = ⟨g, p, 0⟩ := by unfold gfin; rw [if_pos h]
theorem gfin_bad {g : G} {p : Nat} (h : g.valid = false) : gfin g p = ⟨noG, 0, 31⟩ := by unfold gfin; rw [if_neg (by rw [h]; decide)]
/-- a row of whole numbers that is a datagram's own block -/
def RowH (w : World) (b : Nat) (zs : List Int) : Prop := w.heap[b]? = some (.cells (zs.map fun x => Value.int .i64 x).toArray 26 (0, 0))
section
variable {w w1 : World} {b : Nat} {zs : List Int}
theorem RowH.cell (h : RowH w b zs) (i : Nat) (hi : i < zs.length) : w.cell? ⟨b, i, none⟩ = some (.int .i64 (zs.getD i 0)) := by
  unfold RowH at h
  unfold World.cell?
  rw [h]
  simp [List.getElem?_eq_getElem hi, List.getD_eq_getElem?_getD]
theorem RowH.free (h : RowH w b zs) (i : Nat) : w.frozen? ⟨b, i, none⟩ = false := by
  unfold RowH at h
  unfold World.frozen?
  rw [h]
  simp
theorem RowH.below (h : RowH w b zs) (hb : Below w.heap.size w w1) : RowH w1 b zs := by
  unfold RowH at *
  rw [hb.block _ (Array.getElem?_eq_some_iff.1 h).1]; exact h
theorem RowH.new (w : World) (s : Nat) (hs : w.heap.size = s) (zs : List Int) : RowH (w.alloc (.cells (zs.map fun x => Value.int .i64 x).toArray 26)) s zs := by
  subst hs
  show (w.heap.push _)[w.heap.size]? = _
  simp
theorem RowH.other {b' : Nat} (h : RowH w b zs) (hne : b' ≠ b) (i : Nat) (v : Value) : RowH (w.setCell ⟨b', i, none⟩ v) b zs := by
  unfold RowH at *
  rw [Below.heap_setCell _ _ _ _ (fun e => hne e.symm)]; exact h
theorem RowH.set (h : RowH w b zs) (i : Nat) (x : Int) : RowH (w.setCell ⟨b, i, none⟩ (.int .i64 x)) b (zs.set i x) := by
  unfold RowH at *
  simp [World.setCell, h, Array.getElem?_modify, List.map_set]
theorem RowH.alloc (h : RowH w b zs) (o : Obj) : RowH (w.alloc o) b zs := h.below (below_alloc (Below.refl _ _) o)
theorem RowH.lt (h : RowH w b zs) : b < w.heap.size := (Array.getElem?_eq_some_iff.1 h).1
end
theorem below9 {w wr : World} {b : Nat} (h : Below b w wr) (v0 v1 v2 v3 v4 v5 v6 v7 v8 : Value) : Below b w (((((((((wr.setCell ⟨b, 0, none⟩ v0).setCell ⟨b, 1, none⟩ v1).setCell ⟨b, 2, none⟩ v2).setCell ⟨b, 3, none⟩ v3).setCell ⟨b, 4, none⟩ v4).setCell ⟨b, 5, none⟩ v5).setCell ⟨b, 6, none⟩ v6).setCell ⟨b, 7, none⟩ v7).setCell ⟨b, 8, none⟩ v8) :=
  ((((((((h.setCell (p := ⟨b, 0, none⟩) (Nat.le_refl _) _).setCell (p := ⟨b, 1, none⟩) (Nat.le_refl _) _).setCell (p := ⟨b, 2, none⟩) (Nat.le_refl _) _).setCell (p := ⟨b, 3, none⟩) (Nat.le_refl _) _).setCell (p := ⟨b, 4, none⟩) (Nat.le_refl _) _).setCell (p := ⟨b, 5, none⟩) (Nat.le_refl _) _).setCell (p := ⟨b, 6, none⟩) (Nat.le_refl _) _).setCell (p := ⟨b, 7, none⟩) (Nat.le_refl _) _).setCell (p := ⟨b, 8, none⟩) (Nat.le_refl _) _
theorem below5b {w wr : World} {b : Nat} (h : Below b w wr) (hs : b ≤ wr.heap.size) (v4 v5 v6 v7 v8 : Value) (o : Obj) : Below b w ((((((wr.setCell ⟨b + 1, 4, none⟩ v4).setCell ⟨b + 1, 5, none⟩ v5).setCell ⟨b + 1, 6, none⟩ v6).setCell ⟨b + 1, 7, none⟩ v7).setCell ⟨b + 1, 8, none⟩ v8).alloc o) :=
  have hp : ∀ i, b ≤ (⟨b + 1, i, none⟩ : Addr).block := fun _ => Nat.le_succ _
  have k := (((((h.setCell (hp 4) v4).setCell (hp 5) v5).setCell (hp 6) v6).setCell (hp 7) v7).setCell (hp 8) v8)
  k.alloc (by simpa [World.setCell] using hs) o
theorem RowH.all {w : World} {b : Nat} {zs : List Int} (h : RowH w b zs) (y0 y1 y2 y3 y4 y5 y6 y7 y8 : Int) (hz : zs.length = 9) :
    RowH (((((((((w.setCell ⟨b, 0, none⟩ (.int .i64 y0)).setCell ⟨b, 1, none⟩ (.int .i64 y1)).setCell ⟨b, 2, none⟩ (.int .i64 y2)).setCell ⟨b, 3, none⟩ (.int .i64 y3)).setCell ⟨b, 4, none⟩ (.int .i64 y4)).setCell ⟨b, 5, none⟩ (.int .i64 y5)).setCell ⟨b, 6, none⟩ (.int .i64 y6)).setCell ⟨b, 7, none⟩ (.int .i64 y7)).setCell ⟨b, 8, none⟩ (.int .i64 y8)) b [y0, y1, y2, y3, y4, y5, y6, y7, y8] := by
  have := ((((((((h.set 0 y0).set 1 y1).set 2 y2).set 3 y3).set 4 y4).set 5 y5).set 6 y6).set 7 y7).set 8 y8
  match zs, hz with
  | [a, b, c, d, e, f, g, h, i], _ => exact this
theorem below9c {w wr : World} {b b' : Nat} (hb' : b ≤ b') (h : Below b w wr) (v0 v1 v2 v3 v4 v5 v6 v7 v8 : Value) : Below b w (((((((((wr.setCell ⟨b', 0, none⟩ v0).setCell ⟨b', 1, none⟩ v1).setCell ⟨b', 2, none⟩ v2).setCell ⟨b', 3, none⟩ v3).setCell ⟨b', 4, none⟩ v4).setCell ⟨b', 5, none⟩ v5).setCell ⟨b', 6, none⟩ v6).setCell ⟨b', 7, none⟩ v7).setCell ⟨b', 8, none⟩ v8) :=
  have hp : ∀ i, b ≤ (⟨b', i, none⟩ : Addr).block := fun _ => hb'
  ((((((((h.setCell (hp 0) _).setCell (hp 1) _).setCell (hp 2) _).setCell (hp 3) _).setCell (hp 4) _).setCell (hp 5) _).setCell (hp 6) _).setCell (hp 7) _).setCell (hp 8) _
theorem RowH.others {w : World} {b b' : Nat} {zs : List Int} (h : RowH w b zs) (hne : b' ≠ b) (v0 v1 v2 v3 v4 v5 v6 v7 v8 : Value) : RowH (((((((((w.setCell ⟨b', 0, none⟩ v0).setCell ⟨b', 1, none⟩ v1).setCell ⟨b', 2, none⟩ v2).setCell ⟨b', 3, none⟩ v3).setCell ⟨b', 4, none⟩ v4).setCell ⟨b', 5, none⟩ v5).setCell ⟨b', 6, none⟩ v6).setCell ⟨b', 7, none⟩ v7).setCell ⟨b', 8, none⟩ v8) b zs :=
  ((((((((h.other hne _ _).other hne _ _).other hne _ _).other hne _ _).other hne _ _).other hne _ _).other hne _ _).other hne _ _).other hne _ _
theorem gx0 (p0 p1 p2 p3 : Option Addr) (W : World) : (Instr.index 53 (.agg #[.pointer p0, .pointer p1, .pointer p2, .pointer p3]) (.int .i64 0)).run Tryd.prog W = .ok (.pointer p0) W := by
  simp [Instr.index, run_underlying Tryd.underlying53, asIntOf, go_sem]
theorem gx1 (p0 p1 p2 p3 : Option Addr) (W : World) : (Instr.index 53 (.agg #[.pointer p0, .pointer p1, .pointer p2, .pointer p3]) (.int .i64 1)).run Tryd.prog W = .ok (.pointer p1) W := by
  simp [Instr.index, run_underlying Tryd.underlying53, asIntOf, go_sem]
theorem gx2 (p0 p1 p2 p3 : Option Addr) (W : World) : (Instr.index 53 (.agg #[.pointer p0, .pointer p1, .pointer p2, .pointer p3]) (.int .i64 2)).run Tryd.prog W = .ok (.pointer p2) W := by
  simp [Instr.index, run_underlying Tryd.underlying53, asIntOf, go_sem]
theorem gx3 (p0 p1 p2 p3 : Option Addr) (W : World) : (Instr.index 53 (.agg #[.pointer p0, .pointer p1, .pointer p2, .pointer p3]) (.int .i64 3)).run Tryd.prog W = .ok (.pointer p3) W := by
  simp [Instr.index, run_underlying Tryd.underlying53, asIntOf, go_sem]
end Go.Proofs.YtobkcedmjeidfaaDoor.gtake
