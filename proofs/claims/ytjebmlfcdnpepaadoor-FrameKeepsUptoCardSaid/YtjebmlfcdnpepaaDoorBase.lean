/- Words for slices of bytes that are read, and small laws on lists. -/
import Derived.Test.YtjebmlfcdnpepaaDoorProg
import Derived.WalkKit
import Derived.Lib.Hide
import Derived.Deep.QuietTactic
import Derived.Test.YtjebmlfcdnpepaaDoorWWords
set_option linter.unusedVariables false
set_option linter.unusedSimpArgs false
namespace Go.Proofs.YtjebmlfcdnpepaaDoor.base
open Go.RowKit Go.Proofs.YtjebmlfcdnpepaaDoorW.PrintWords

/-- all are bytes -/
def By (xs : List Int) : Prop := ∀ i : Nat, 0 ≤ xs.getD i 0 ∧ xs.getD i 0 ≤ 255
theorem By_of (xs : List Int) (h : ∀ x ∈ xs, 0 ≤ x ∧ x ≤ 255) : By xs := by
  intro i
  rw [List.getD_eq_getElem?_getD]
  rcases Nat.lt_or_ge i xs.length with hi | hi
  · rw [List.getElem?_eq_getElem hi]; exact h _ (List.getElem_mem _)
  · rw [List.getElem?_eq_none hi]; exact ⟨by decide, by decide⟩
theorem By.mem {xs : List Int} (h : By xs) (x : Int) (hx : x ∈ xs) : 0 ≤ x ∧ x ≤ 255 := by
  obtain ⟨i, hi, rfl⟩ := List.getElem_of_mem hx
  have := h i
  simpa [List.getD_eq_getElem?_getD, List.getElem?_eq_getElem hi] using this
theorem By.append {xs ys : List Int} (h : By xs) (k : By ys) : By (xs ++ ys) := By_of _ fun x hx => by
  rcases List.mem_append.1 hx with hx | hx
  · exact h.mem x hx
  · exact k.mem x hx
theorem By.take {xs : List Int} (h : By xs) (n : Nat) : By (xs.take n) := By_of _ fun x hx => h.mem x (List.mem_of_mem_take hx)
theorem By.drop {xs : List Int} (h : By xs) (n : Nat) : By (xs.drop n) := By_of _ fun x hx => h.mem x (List.mem_of_mem_drop hx)
/-- a slice of bytes that is read -/
def RdB (w : World) (A : Option Addr) (n : Nat) (xs : List Int) : Prop := ReadsInt w .u8 A n xs ∧ By xs
theorem RdB.below {w w1 : World} {A : Option Addr} {n : Nat} {xs : List Int} (h : RdB w A n xs) (hb : Below w.heap.size w w1) : RdB w1 A n xs := ⟨h.1.below hb, h.2⟩
theorem RdB.len {w : World} {A : Option Addr} {n : Nat} {xs : List Int} (h : RdB w A n xs) : xs.length = n := h.1.1
theorem RdB.max {w : World} {A : Option Addr} {n : Nat} {xs : List Int} (h : RdB w A n xs) : n ≤ 9223372036854775807 := h.1.2.1
theorem RdB.at_ {w : World} {A : Option Addr} {n : Nat} {xs : List Int} (h : RdB w A n xs) (i : Nat) (h1 : i < n) : ∃ ad, A = some ad ∧ w.cell? (ad.add i) = some (.int .u8 (xs.getD i 0)) := by
  obtain ⟨ad, e, hc⟩ := h.1.2.2 (by omega)
  exact ⟨ad, e, hc _ h1⟩
theorem take_snoc (xs : List Int) (k : Nat) (h : k < xs.length) : xs.take (k + 1) = xs.take k ++ [xs.getD k 0] := by
  rw [List.take_succ_eq_append_getElem (by omega)]; simp [List.getD_eq_getElem?_getD, List.getElem?_eq_getElem h]

/-- a slice of slices of bytes that is read -/
def RdBB (w : World) (A : Option Addr) (n : Nat) (xss : List (List Int)) : Prop :=
  xss.length = n ∧ n ≤ 9223372036854775807 ∧ (0 < n → ∃ ad, A = some ad ∧ ∀ j, j < n → ∃ a m c, w.cell? (ad.add j) = some (.slice a m c) ∧ m ≤ c ∧ RdB w a m (xss.getD j []))
theorem RdBB.below {w w1 : World} {A : Option Addr} {n : Nat} {xss : List (List Int)} (h : RdBB w A n xss) (hb : Below w.heap.size w w1) : RdBB w1 A n xss :=
  ⟨h.1, h.2.1, fun hn => by
    obtain ⟨ad, e, hc⟩ := h.2.2 hn
    refine ⟨ad, e, fun j hj => ?_⟩
    obtain ⟨a, m, c, h1, h2, h3⟩ := hc j hj
    exact ⟨a, m, c, pw_cell_below hb h1, h2, h3.below hb⟩⟩
theorem RdBB.at_ {w : World} {A : Option Addr} {n : Nat} {xss : List (List Int)} (h : RdBB w A n xss) (j : Nat) (hj : j < n) : ∃ ad, A = some ad ∧ ∃ a m c, w.cell? (ad.add j) = some (.slice a m c) ∧ m ≤ c ∧ RdB w a m (xss.getD j []) := by
  obtain ⟨ad, e, hc⟩ := h.2.2 (by omega)
  exact ⟨ad, e, hc j hj⟩
theorem take_snoc2 (xs : List (List Int)) (k : Nat) (h : k < xs.length) : xs.take (k + 1) = xs.take k ++ [xs.getD k []] := by
  rw [List.take_succ_eq_append_getElem (by omega)]; simp [List.getD_eq_getElem?_getD, List.getElem?_eq_getElem h]
theorem lit_reads (w : World) (e : TypeId) (fr : Nat × Nat) (xs : List Int) (h : xs.length ≤ 9223372036854775807) : ReadsInt (w.alloc (.cells (nums .u8 xs).toArray e fr)) .u8 (some ⟨w.heap.size, 0, none⟩) xs.length xs := by
  refine ⟨rfl, h, fun _ => ⟨_, rfl, fun j hj => ?_⟩⟩
  have hh : (w.alloc (.cells (nums .u8 xs).toArray e fr)).heap[w.heap.size]? = some (.cells (nums .u8 xs).toArray e fr) := by
    show (w.heap.push _)[w.heap.size]? = _
    simp
  rw [add_plain]
  unfold World.cell?
  rw [hh]
  simp [nums, List.getElem?_eq_getElem hj, List.getD_eq_getElem?_getD]
theorem RdB.drawn {w : World} {A : Option Addr} {n : Nat} {xs : List Int} (h : RdB w A n xs) (k : Nat) : RdB (w.drewN k) A n xs := h.below (pw_below_drewN (Below.refl _ _) k)
theorem RdB.take {w : World} {A : Option Addr} {n : Nat} {xs : List Int} (h : RdB w A n xs) (i : Nat) (hi : i ≤ n) : RdB w A i (xs.take i) := ⟨h.1.take_ i hi, h.2.take i⟩
theorem RdB.drop {w : World} {A : Option Addr} {n c : Nat} {xs : List Int} (h : RdB w A n xs) (i : Nat) (hi : i ≤ n) (hc : n ≤ c) : RdB w (if c = i then A else A.map (·.add i)) (n - i) (xs.drop i) := ⟨h.1.drop_ i hi hc, h.2.drop i⟩
/-- '[][]byte{a, b}' -/
theorem rows2 {w : World} {A A' : Option Addr} {n c n' c' : Nat} {xs ys : List Int} (h : RdB w A n xs) (hc : n ≤ c) (h' : RdB w A' n' ys) (hc' : n' ≤ c') (e : TypeId) :
    RdBB (w.alloc (.cells #[.slice A n c, .slice A' n' c'] e)) (some ⟨w.heap.size, 0, none⟩) 2 [xs, ys] := by
  have hb := below_alloc (Below.refl w.heap.size w) (.cells #[.slice A n c, .slice A' n' c'] e)
  refine ⟨rfl, by omega, fun _ => ⟨_, rfl, fun j hj => ?_⟩⟩
  have hh : (w.alloc (.cells #[.slice A n c, .slice A' n' c'] e)).heap[w.heap.size]? = some (.cells #[.slice A n c, .slice A' n' c'] e) := by
    show (w.heap.push _)[w.heap.size]? = _
    simp
  match j, hj with
  | 0, _ => exact ⟨A, n, c, by rw [add_plain]; unfold World.cell?; rw [hh]; rfl, hc, h.below hb⟩
  | 1, _ => exact ⟨A', n', c', by rw [add_plain]; unfold World.cell?; rw [hh]; rfl, hc', h'.below hb⟩
theorem quiet_left {P : Program} {f : FuncId} {args : Array Value} {w : World} {n : Nat} {v : Value}
    (h : Calls P f args (w.drewN n) fun e w' => e = .returned v ∧ w.drewN n = w') : Calls P f args (w.drewN n) fun e w'' => e = .returned v ∧ ∃ m, w'' = w.drewN m :=
  h.mono fun _ _ ⟨he, hm⟩ => ⟨he, n, hm.symm⟩
theorem quiet_add_left {P : Program} {f : FuncId} {args : Array Value} {w : World} {a n : Nat} {v : Value}
    (h : Calls P f args (w.drewN (a + n)) fun e w' => e = .returned v ∧ w.drewN (a + n) = w') :
    Calls P f args (w.drewN (a + n)) fun e w'' => e = .returned v ∧ ∃ m, w'' = w.drewN (a + m) :=
  h.mono fun _ _ ⟨he, hm⟩ => ⟨he, n, hm.symm⟩
end Go.Proofs.YtjebmlfcdnpepaaDoor.base
