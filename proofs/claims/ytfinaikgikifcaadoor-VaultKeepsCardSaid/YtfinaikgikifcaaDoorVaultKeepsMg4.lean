/- Slices of one's own, each in its own block; and what is proved besides: see the words ahead of each part. -/
import Derived.RangeFuncBox
import Derived.StillTailTactics
import Derived.Laws.BitsLemmas
import Derived.Laws.OwnMore
import Derived.Test.YtfinaikgikifcaaDoorVaultKeepsMg3
set_option linter.unusedVariables false
set_option linter.unusedSimpArgs false
/- Slices of one's own, each in its own block. -/
namespace Go.Proofs.YtfinaikgikifcaaDoor.framea
open Go.RowKit Go.Shelf Go.Proofs.YtfinaikgikifcaaDoorW.PrintWords Go.Proofs.YtfinaikgikifcaaDoor.base Go.Proofs.YtfinaikgikifcaaDoor.mem Go.Proofs.YtfinaikgikifcaaDoor.crcp Go.Proofs.YtfinaikgikifcaaDoor.crcw Go.Proofs.YtfinaikgikifcaaDoor.samew Go.Proofs.YtfinaikgikifcaaDoor.keep Go.Proofs.YtfinaikgikifcaaDoor.framep Go.Proofs.YtfinaikgikifcaaDoor.framew Go.Proofs.YtfinaikgikifcaaDoor.frameit Go.Proofs.YtfinaikgikifcaaDoor.framem Go.Proofs.YtfinaikgikifcaaDoor.framel Go.Proofs.YtfinaikgikifcaaDoor.over
attribute [local go_sem] Oper.semAt_some

/-! ### plain -/
def payK (xs : List Int) (k : Nat × Nat) : List Int := (xs.drop (k.1 + 8)).take k.2
/-- the payloads of the good frames -/
def pays (xs : List Int) : List (List Int) := (flist xs).map (payK xs)
theorem pays_of {xs : List Int} {ys : List It} (h : ys.map It.key = flist xs) : ys.map (pay xs) = pays xs := by
  unfold pays
  rw [← h, List.map_map]
  rfl
theorem fitems_len : ∀ (f p : Nat) (xs : List Int), (fitems f p xs).length * 8 ≤ xs.length := by
  intro f
  induction f with
  | zero => intro p xs; simp [fitems]
  | succ f ih =>
    intro p xs
    by_cases h : firstN xs = 0
    · rw [fitems_end _ _ _ h]; simp
    · rw [fitems_next _ _ _ h, List.length_cons]
      have h1 := ih (p + firstN xs) (xs.drop (firstN xs))
      have h2 := firstN_le xs
      have h3 := firstN_ge xs h
      rw [List.length_drop] at h1
      omega
theorem flist_len (xs : List Int) : (flist xs).length * 8 ≤ xs.length := fitems_len _ _ _
theorem V.lt {xs : List Int} {B : Nat} {pre : List It} {x : It} {W : World} (h : V xs B pre x W) : pre.length < (flist xs).length := by
  have h1 := h.1.length_le
  simp at h1
  omega
/-! ### slices of the call's own, each in its own block -/
structure Rws (W : World) (base : Nat) (cells : List Value) (xss : List (List Int)) : Prop where
  len : cells.length = xss.length
  at_ : ∀ j, j < xss.length → ∃ a m c, cells[j]? = some (.slice a m c) ∧ OwB W base a m c (xss.getD j [])
  apart : ∀ (i j g : Nat) (a : Option Addr) (m c : Nat) (a' : Option Addr) (m' c' : Nat), cells[i]? = some (Value.slice a m c) → cells[j]? = some (Value.slice a' m' c') → (Value.slice a m c).ownBlock = some g → (Value.slice a' m' c').ownBlock = some g → i = j
theorem Rws.nil (W : World) (base : Nat) : Rws W base [] [] := ⟨rfl, fun j hj => absurd hj (by simp), fun i j g a m c a' m' c' h => by simp at h⟩
theorem Rws.map {W W' : World} {base : Nat} {cells : List Value} {xss : List (List Int)} (h : Rws W base cells xss) (hw : ∀ a m c ys, OwB W base a m c ys → OwB W' base a m c ys) : Rws W' base cells xss :=
  ⟨h.len, fun j hj => by obtain ⟨a, m, c, h1, h2⟩ := h.at_ j hj; exact ⟨a, m, c, h1, hw _ _ _ _ h2⟩, h.apart⟩
theorem Rws.snoc {W0 W : World} {base B : Nat} {cells : List Value} {xss : List (List Int)} (h0 : Rws W0 base cells xss) (h : Rws W base cells xss) (hB : W0.heap.size ≤ B) (hb : base ≤ B) {a : Option Addr} {m c : Nat} {ys : List Int} (hy : OwB W B a m c ys) :
    Rws W base (cells ++ [.slice a m c]) (xss ++ [ys]) := by
  have hold : ∀ (i g : Nat) (a' : Option Addr) (m' c' : Nat), cells[i]? = some (Value.slice a' m' c') → (Value.slice a' m' c').ownBlock = some g → g < B := by
    intro i g a' m' c' hi hg
    have hlt : i < xss.length := by rw [← h0.len]; exact (List.getElem?_eq_some_iff.1 hi).1
    obtain ⟨a2, m2, c2, h1, h2⟩ := h0.at_ i hlt
    rw [hi] at h1
    injection h1 with h1
    injection h1 with e1 e2 e3
    subst e1 e2 e3
    exact Nat.lt_of_lt_of_le (OwB.blk h2 g hg).2 hB
  have hnew : ∀ g, (Value.slice a m c).ownBlock = some g → B ≤ g := fun g hg => (OwB.blk hy g hg).1
  refine ⟨by simp [h.len], fun j hj => ?_, ?_⟩
  · rcases Nat.lt_or_ge j xss.length with hlt | hge
    · obtain ⟨a', m', c', h1, h2⟩ := h.at_ j hlt
      refine ⟨a', m', c', by rw [List.getElem?_append_left (by rw [h.len]; exact hlt)]; exact h1, ?_⟩
      rw [List.getD_eq_getElem?_getD, List.getElem?_append_left hlt, ← List.getD_eq_getElem?_getD]; exact h2
    · obtain rfl : j = xss.length := by simp at hj; omega
      refine ⟨a, m, c, by rw [← h.len]; simp, ?_⟩
      simpa [List.getD_eq_getElem?_getD] using hy.less hb
  · intro i j g a1 m1 c1 a2 m2 c2 hi hj gi gj
    rcases Nat.lt_or_ge i cells.length with hil | hil <;> rcases Nat.lt_or_ge j cells.length with hjl | hjl
    · rw [List.getElem?_append_left hil] at hi
      rw [List.getElem?_append_left hjl] at hj
      exact h.apart i j g _ _ _ _ _ _ hi hj gi gj
    · rw [List.getElem?_append_left hil] at hi
      have h1 := hold i g _ _ _ hi gi
      obtain rfl : j = cells.length := by
        have := (List.getElem?_eq_some_iff.1 hj).1
        simp at this
        omega
      simp at hj
      obtain ⟨rfl, rfl, rfl⟩ := hj
      have := hnew g gj
      omega
    · rw [List.getElem?_append_left hjl] at hj
      have h1 := hold j g _ _ _ hj gj
      obtain rfl : i = cells.length := by
        have := (List.getElem?_eq_some_iff.1 hi).1
        simp at this
        omega
      simp at hi
      obtain ⟨rfl, rfl, rfl⟩ := hi
      have := hnew g gi
      omega
    · have h1 := (List.getElem?_eq_some_iff.1 hi).1
      have h2 := (List.getElem?_eq_some_iff.1 hj).1
      simp at h1 h2
      omega
theorem Rws.of {W : World} {base : Nat} {cells : List Value} {xss : List (List Int)} (h : Rws W base cells xss) : RowsOf W cells xss :=
  ⟨h.len, fun j hj => by obtain ⟨a, m, c, h1, h2⟩ := h.at_ j hj; exact ⟨a, m, c, h1, h2.cap, h2.rd⟩⟩
/-- what is no block of bytes may turn -/
theorem OwB.keptT {w w' : World} {base n c : Nat} {A : Option Addr} {ys : List Int} (h : OwB w base A n c ys) {row : Option Nat} (hg : w.grownBy w' row) (hr : ∀ r, row = some r → ∀ cur, w.heap[r]? ≠ some (.cells cur 5 (0, 0))) : OwB w' base A n c ys := by
  refine ⟨h.1.kept hg ?_, h.2⟩
  rcases h.1.2 with ⟨hv, _⟩ | ⟨g, cap, cur, hv, _, hb, _, _, _⟩
  · injection hv with h1 _ _
    subst h1
    exact .inl rfl
  · injection hv with h1 _ _
    subst h1
    exact .inr fun e => hr g e.symm cur hb
theorem OwV.row {w : World} {base n c : Nat} {A : Option Addr} {cells : List Value} (h : OwV w base A n c cells) : ∀ r, (Value.slice A n c).ownBlock = some r → ∀ cur, w.heap[r]? ≠ some (.cells cur 5 (0, 0)) := by
  intro r hr cur he
  rcases h.2 with ⟨hv, _⟩ | ⟨g, cap, cur', hv, _, hb, _, _, _⟩
  · rw [hv] at hr; cases hr
  · rw [hv] at hr
    injection hr with hr
    have hr : g = r := hr
    subst hr
    rw [hb] at he
    injection he with he
    injection he with _ he _
    revert he
    decide
theorem Boxed.row {W : World} {B : Nat} {t : TypeId} {v : Value} (h : Boxed W B t v) (ht : t ≠ 5) : ∀ r, some B = some r → ∀ cur, W.heap[r]? ≠ some (.cells cur 5 (0, 0)) := by
  rintro r ⟨⟩ cur he
  rw [show W.heap[B]? = _ from h] at he
  injection he with he
  injection he with _ he _
  exact ht he
theorem OwB.ck {w w' : World} {base n c : Nat} {A : Option Addr} {ys : List Int} (h : OwB w base A n c ys) (hk : CK w w') : OwB w' base A n c ys := by
  refine ⟨⟨h.1.1, ?_⟩, h.2⟩
  rcases h.1.2 with hv | ⟨g, cap, cur, hv, h1, hb, h2⟩
  · exact .inl hv
  · exact .inr ⟨g, cap, cur, hv, h1, hk.2 _ _ hb rfl, h2⟩
theorem OwV.ck {w w' : World} {base n c : Nat} {A : Option Addr} {cells : List Value} (h : OwV w base A n c cells) (hk : CK w w') : OwV w' base A n c cells := by
  refine ⟨h.1, ?_⟩
  rcases h.2 with hv | ⟨g, cap, cur, hv, h1, hb, h2⟩
  · exact .inl hv
  · exact .inr ⟨g, cap, cur, hv, h1, hk.2 _ _ hb rfl, h2⟩
theorem OwV.kept {w w' : World} {base n c : Nat} {A : Option Addr} {cells : List Value} (h : OwV w base A n c cells) {row : Option Nat} (hg : w.grownBy w' row) (hr : ∀ r, row = some r → ∃ o : Obj, w.heap[r]? = some o ∧ o.isCells = false) : OwV w' base A n c cells := by
  refine World.ownsRow.kept h hg ?_
  rcases h.2 with ⟨hv, _⟩ | ⟨g, cap, cur, hv, _, hb, _, _, _⟩
  · rw [hv]; exact .inl rfl
  · rw [hv]
    refine .inr fun e => ?_
    obtain ⟨o, ho, hc⟩ := hr g e.symm
    rw [hb] at ho
    injection ho with ho
    subst ho
    cases hc
theorem Boxed.ck {W W' : World} {B : Nat} {t : TypeId} {v : Value} (h : Boxed W B t v) (hk : CK W W') : Boxed W' B t v := hk.2 _ _ h rfl
theorem KT.of {n0 lo hi : Nat} {W W' : World} (hb : Below n0 W W') (hg : 0 < n0) (hband : Band lo hi W W') : KT lo hi W W' :=
  ⟨hband, fun t i hi => by rw [← t i hi]; exact World.cell?_of_block (hb.block _ hg), hb.size⟩
/-- a slice of slices in a box -/
def BoxV (base b : Nat) (cells : List Value) (W : World) : Prop := ∃ A n c, Boxed W b 28 (.slice A n c) ∧ OwV W base A n c cells
end Go.Proofs.YtfinaikgikifcaaDoor.framea
/- What the reference's First and All compute. -/
namespace Go.Proofs.YtfinaikgikifcaaDoor.framer
open Go.RowKit Go.Proofs.YtfinaikgikifcaaDoorW.PrintWords Go.Proofs.YtfinaikgikifcaaDoor.base Go.Proofs.YtfinaikgikifcaaDoor.mem Go.Proofs.YtfinaikgikifcaaDoor.crcp Go.Proofs.YtfinaikgikifcaaDoor.crcw Go.Proofs.YtfinaikgikifcaaDoor.samew Go.Proofs.YtfinaikgikifcaaDoor.keep Go.Proofs.YtfinaikgikifcaaDoor.framep Go.Proofs.YtfinaikgikifcaaDoor.framew Go.Proofs.YtfinaikgikifcaaDoor.frameit Go.Proofs.YtfinaikgikifcaaDoor.framem Go.Proofs.YtfinaikgikifcaaDoor.framel Go.Proofs.YtfinaikgikifcaaDoor.framea

theorem le4_w4 {xs : List Int} (h : By xs) (h4 : 4 ≤ xs.length) : le4 (w4 xs) = xs.take 4 := by
  obtain ⟨a, b, c, d, r, rfl⟩ : ∃ a b c d r, xs = a :: b :: c :: d :: r := by
    match xs, h4 with
    | a :: b :: c :: d :: r, _ => exact ⟨a, b, c, d, r, rfl⟩
  have ha := h.mem a (by simp)
  have hb := h.mem b (by simp)
  have hc := h.mem c (by simp)
  have hd := h.mem d (by simp)
  simp only [le4, w4, List.getD_cons_zero, List.getD_cons_succ, List.take_succ_cons, List.take_zero]
  refine List.cons_eq_cons.2 ⟨by omega, List.cons_eq_cons.2 ⟨by omega, List.cons_eq_cons.2 ⟨by omega, List.cons_eq_cons.2 ⟨by omega, rfl⟩⟩⟩⟩
theorem first_iff {xs pl : List Int} (h : By xs) (h8 : 8 ≤ xs.length) (hp : (pl.length : Int) = w4 xs) : (fenc pl).take 8 = xs.take 8 ↔ parts 0 [xs.take 4, pl] = w4 (xs.drop 4) := by
  have e1 : (fenc pl).take 8 = le4 (w4 xs) ++ le4 (parts 0 [le4 (w4 xs), pl]) := by
    unfold fenc
    rw [hp]
    rfl
  have e2 : xs.take 8 = xs.take 4 ++ (xs.drop 4).take 4 := by rw [show (8 : Nat) = 4 + 4 from rfl, List.take_add]
  rw [e1, e2, le4_w4 h (by omega), ← le4_w4 (h.drop 4) (by rw [List.length_drop]; omega)]
  constructor
  · intro e
    have e3 := List.append_cancel_left e
    have e4 := congrArg (fun l => w4 (l ++ [])) e3
    rwa [w4_le4 (U32_parts 0 ⟨by decide, by decide⟩ _), w4_le4 (w4_range (h.drop 4))] at e4
  · intro e
    rw [e]
/-- the first loop's number: of four bytes the last ones, the last first -/
def hz (xs : List Int) : Nat → Int
  | 0 => 0
  | j + 1 => hz xs j * 256 + xs.getD (3 - j) 0
theorem hz_bound {xs : List Int} (h : By xs) (j : Nat) (hj : j ≤ 4) : 0 ≤ hz xs j ∧ hz xs j ≤ 4294967295 := by
  have h0 := By.getD h 0
  have h1 := By.getD h 1
  have h2 := By.getD h 2
  have h3 := By.getD h 3
  match j, hj with
  | 0, _ => simp [hz]
  | 1, _ => simp only [hz, Nat.reduceSub, Nat.sub_self, Nat.sub_zero]; omega
  | 2, _ => simp only [hz, Nat.reduceSub, Nat.sub_self, Nat.sub_zero]; omega
  | 3, _ => simp only [hz, Nat.reduceSub, Nat.sub_self, Nat.sub_zero]; omega
  | 4, _ => simp only [hz, Nat.reduceSub, Nat.sub_self, Nat.sub_zero]; omega
theorem hz_all (xs : List Int) : hz xs 4 = w4 xs := by simp only [hz, w4, Nat.reduceSub, Nat.sub_self, Nat.sub_zero]; omega
def RetFirst (w : World) (xs : List Int) (e : Ending) (w' : World) : Prop := ∃ A n c, e = .returned (.tuple #[.slice A n c, .int .i64 (firstN xs : Nat)]) ∧ OwB w' w.heap.size A n c ((xs.drop 8).take (firstN xs - 8)) ∧ Below w.heap.size w w'
set_option maxHeartbeats 1000000 in
theorem reffirst_any (A : Option Addr) (n c : Nat) (xs : List Int) (w : World) (hr : RdB w A n xs) (hc : n ≤ c) :
    Calls Tryd.prog 66 #[.slice A n c] w (RetFirst w xs) := by
  have HR := Lib.hid hr
  have hlen := hr.len
  have hmax := hr.max
  clear hr
  by_cases h8 : n < 8
  · have HF : Hid (firstN xs = 0) := Lib.hid (by unfold firstN; rw [if_pos (by omega)])
    go_enter Tryd.func66, Tryd.ntmps66
    go_wp2
    refine bodyPost_ret (results_tmp2 rfl _ _ _) rfl ?_
    refine ⟨none, 0, 0, by rw [HF.out]; rfl, by rw [HF.out]; exact OwB.nil _ _, Below.refl _ _⟩
  go_enter Tryd.func66, Tryd.ntmps66
  go_wp2
  go_loop [4, 5] (fun r i => ∃ v : Int, r = .int .i64 v ∧ 0 ≤ v ∧ v ≤ 4294967295 ∧ ((∃ k : Nat, k ≤ 3 ∧ i = .int .i64 k ∧ Aside0 (v = hz xs (3 - k))) ∨ (i = .int .i64 (-1) ∧ Aside0 (v = w4 xs)))) (fun _ i => (intOf i + 1).toNat)
  case atStart => exact ⟨0, rfl, by omega, by omega, .inl ⟨3, by omega, rfl, ⟨rfl⟩⟩⟩
  case round =>
    obtain ⟨v, rfl, hv0, hv1, ⟨k, hk, rfl, HV⟩ | ⟨rfl, HV⟩⟩ := hrel
    · obtain ⟨ad, rfl, hcell⟩ := HR.out.at_ k (by omega)
      have hbd := By.getD HR.out.2 k
      have HB := Lib.hid (hz_bound HR.out.2 (3 - k + 1) (by omega))
      have HS : Hid (hz xs (3 - k + 1) = hz xs (3 - k) * 256 + xs.getD k 0) := Lib.hid (by show _ * 256 + xs.getD (3 - (3 - k)) 0 = _; rw [show 3 - (3 - k) = k from by omega])
      generalize xs.getD k 0 = b at hcell hbd HS
      have hkn : k < n := by omega
      have hvb : 0 ≤ v * 256 + b ∧ v * 256 + b ≤ 4294967295 := by have h1 := HB.out; rw [HS.out, ← HV.out] at h1; exact h1
      go_wp2
      go_round
      case rel =>
        refine ⟨v * 256 + b, rfl, hvb.1, hvb.2, ?_⟩
        rcases Nat.eq_zero_or_pos k with h0 | h0
        · subst h0
          exact .inr ⟨by go_num, ⟨by rw [← hz_all, show (4 : Nat) = 3 - 0 + 1 from rfl, HS.out, ← HV.out]⟩⟩
        · exact .inl ⟨k - 1, by omega, by go_num, ⟨by rw [show 3 - (k - 1) = 3 - k + 1 from by omega, HS.out, ← HV.out]⟩⟩
      case measure => first | (simp [intOf]; done) | (simp [intOf]; omega)
    · have hV := HV.out
      obtain ⟨u, rfl⟩ := Int.eq_ofNat_of_zero_le hv0
      have HFdef : Hid (firstN xs = if 1048576 < u ∨ n - 8 < u ∨ parts 0 [xs.take 4, (xs.drop 8).take u] ≠ w4 (xs.drop 4) then 0 else 8 + u) := Lib.hid (by unfold firstN; rw [if_neg (by omega), ← hV, hlen]; rfl)
      have HV := Lib.hid hV
      clear hV hlen
      by_cases hbig : 1048576 < u
      · have HF : Hid (firstN xs = 0) := Lib.hid (by rw [HFdef.out, if_pos (.inl hbig)])
        have hb : decide ((1048576 : Int) < (u : Int)) = true := decide_eq_true (by omega)
        go_wp2
        refine bodyPost_ret (results_tmp2 rfl _ _ _) rfl ?_
        refine ⟨none, 0, 0, by rw [HF.out]; rfl, by rw [HF.out]; exact OwB.nil _ _, Below.refl _ _⟩
      by_cases hlong : n - 8 < u
      · have HF : Hid (firstN xs = 0) := Lib.hid (by rw [HFdef.out, if_pos (.inr (.inl hlong))])
        have hb : decide ((1048576 : Int) < (u : Int)) = false := decide_eq_false (by omega)
        have hb2 : decide (((n : Int) - 8) < (u : Int)) = true := decide_eq_true (by omega)
        go_wp2
        refine bodyPost_ret (results_tmp2 rfl _ _ _) rfl ?_
        refine ⟨none, 0, 0, by rw [HF.out]; rfl, by rw [HF.out]; exact OwB.nil _ _, Below.refl _ _⟩
      have hb : decide ((1048576 : Int) < (u : Int)) = false := decide_eq_false (by omega)
      have hb2 : decide (((n : Int) - 8) < (u : Int)) = false := decide_eq_false (by omega)
      obtain ⟨A8, n8, c8, hcut8, a1, a2, a3, hrd8⟩ := cutLH A n c 8 (8 + u) (by omega) (by omega) hc
      have e8 : ((8 + u : Nat) : Int) = 8 + (u : Int) := by omega
      have hcut8 : ∀ W : World, (Instr.slice 22 (.slice A n c) (some (.int .i64 8)) (some (.int .i64 (8 + (u : Int)))) none).run Tryd.prog W = .ok (.slice A8 n8 c8) W := fun W => by have := hcut8 W; rw [e8] at this; exact this
      obtain rfl : n8 = u := by omega
      have HRD := Lib.hid (fun W (h : RdB W A n xs) => by
        have h1 := hrd8 W xs h
        rw [show (xs.take (8 + n8)).drop 8 = (xs.drop 8).take n8 from by rw [List.drop_take]; congr 1; omega] at h1
        exact h1)
      have B0 := Lib.hid (Below.refl w.heap.size w)
      have HP : Hid (((xs.drop 8).take n8).length = n8) := Lib.hid (by rw [List.length_take, List.length_drop, HR.out.len]; omega)
      clear e8 hrd8
      go_wp2_with (first | (at_builtin; refine app (w0 := w) (base := w.heap.size) rfl (.tmp 34) (.tmp 38) rfl rfl rfl (OwB.lit0 _ _ (Nat.le_refl _)) (HRD.out _ (HR.out.below (below_alloc (Below.refl _ _) _))) (B0.out.alloc (Nat.le_refl _) _) ?s5 ?l5 ?_; (case s5 => simp); (case l5 => omega); intro A5 n5 c5 w5 ho hb; have HO5 := Lib.hid ho; have B5 := Lib.hid hb; have hl5 : _ = n5 := ho.len; rw [List.nil_append, HP.out] at hl5; subst hl5; have hs5 := hb.size; clear ho hb))
      rw [List.nil_append] at HO5
      generalize hpl : (xs.drop 8).take n8 = pl at HO5 HP
      have hlp := HP.out
      have hdu : decide (n8 ≤ 1048576) = true := decide_eq_true (by omega)
      have HEn := Lib.hid (refencode_any _ _ _ pl _ HO5.out.rd HO5.out.cap)
      rw [hdu] at HEn
      have HI := Lib.hid (first_iff (pl := pl) HR.out.2 (by rw [HR.out.len]; omega) (by rw [hlp]; exact HV.out))
      have HL := Lib.hid (fenc_len pl)
      rw [hlp] at HL
      have HFd : Hid (firstN xs = if (fenc pl).take 8 = xs.take 8 then 8 + n8 else 0) := Lib.hid (by
        rw [HFdef.out, hpl]
        by_cases he : (fenc pl).take 8 = xs.take 8
        · rw [if_pos he, if_neg]
          rintro (h | h | h)
          · exact hbig h
          · exact hlong h
          · exact h (HI.out.1 he)
        · rw [if_neg he, if_pos (.inr (.inr fun h => he (HI.out.2 h)))])
      have HPL := Lib.hid hpl
      clear hpl hlp hdu HFdef HI HV HP HRD hcut8 a1 a2
      generalize fenc pl = E at HEn HL HFd
      refine HEn.out.mono ?_
      rintro e w6 ⟨A6, n6, c6, rfl, ho, hb6⟩
      rw [if_pos rfl] at ho
      have hn6 := ho.len
      rw [HL.out] at hn6
      subst hn6
      have HO6 := Lib.hid ho.rd
      have HO56 := Lib.hid (HO5.out.below hb6)
      have B6 := Lib.hid (B5.out.trans (hb6.mono hs5))
      have HR6 := Lib.hid (HR.out.below B6.out)
      clear ho hb6
      go_wp2
      go_loopw [9] (fun i wr => ∃ j : Nat, j ≤ 8 ∧ i = .int .i64 j ∧ Aside0 (E.take j = xs.take j) ∧ Drawn0 w6 wr) (fun i _ => 8 - (intOf i).toNat)
      case atStart => exact ⟨0, by omega, rfl, ⟨rfl⟩, Drawn0.refl _⟩
      case round =>
        obtain ⟨j, hj, rfl, HE, HD⟩ := hrel
        by_cases hlt : j < 8
        · obtain ⟨ad, rfl, hcx⟩ := (drawn_rd HD HR6.out).at_ j (by omega)
          obtain ⟨ad', rfl, hcy⟩ := (drawn_rd HD HO6.out).at_ j (by omega)
          have hjn : j < n := by omega
          have hjm : j < 8 + n8 := by omega
          by_cases hne : E.getD j 0 = xs.getD j 0
          · have h2 : E.take (j + 1) = xs.take (j + 1) := by rw [take_snoc E j (by rw [HL.out]; omega), take_snoc xs j (by rw [HR.out.len]; omega), HE.out, hne]
            rw [hne] at hcy
            generalize xs.getD j 0 = x at hcx hcy
            have H2 := Aside0.mk h2
            clear h2 hne
            go_wp2
            go_quiet (fail)
            go_wp2
            go_roundw
            case rel => exact ⟨j + 1, by omega, by go_num, H2, HD.step _⟩
            case measure => simp [intOf]; omega
          · have HF : Hid (firstN xs = 0) := Lib.hid (by
              rw [HFd.out, if_neg]
              intro h
              have h1 := congrArg (fun l => l.getD j 0) h
              simp only [List.getD_eq_getElem?_getD, List.getElem?_take, if_pos hlt] at h1 hne
              exact hne h1)
            have hb : (E.getD j 0 != xs.getD j 0) = true := by simpa using hne
            generalize xs.getD j 0 = x at hcx hb
            generalize E.getD j 0 = y at hcy hb
            clear hne
            go_wp2
            go_quiet (fail)
            go_wp2
            refine bodyPost_ret (results_tmp2 rfl _ _ _) rfl ?_
            refine ⟨none, 0, 0, by rw [HF.out]; rfl, by rw [HF.out]; exact OwB.nil _ _, ?_⟩
            obtain ⟨q, rfl⟩ := HD
            exact pw_below_drewN (pw_below_drewN B6.out _) _
        · obtain rfl : j = 8 := by omega
          have HF : Hid (firstN xs = 8 + n8) := Lib.hid (by rw [HFd.out, if_pos HE.out])
          go_wp2
          refine bodyPost_ret (results_tmp2 rfl _ _ _) rfl ?_
          obtain ⟨q, rfl⟩ := HD
          refine ⟨A5, n8, c5, by rw [HF.out]; exact congrArg (fun t => Ending.returned (.tuple #[.slice A5 n8 c5, .int .i64 t])) (by omega), ?_, pw_below_drewN B6.out _⟩
          rw [HF.out, show 8 + n8 - 8 = n8 from by omega, HPL.out]
          exact HO56.out.drawn q
theorem endL_snoc (pre : List (Nat × Nat)) (x : Nat × Nat) : endL (pre ++ [x]) = x.1 + 8 + x.2 := by simp [endL]
set_option maxHeartbeats 1000000 in
theorem refall_any (A : Option Addr) (n c : Nat) (xs : List Int) (w : World) (hr : RdB w A n xs) (hc : n ≤ c) (hn : n ≤ 1048576) :
    Calls Tryd.prog 60 #[.slice A n c] w fun e w' => ∃ A1 n1 c1 cells, e = .returned (.tuple #[.slice A1 n1 c1, .int .i64 (endL (flist xs) : Nat)]) ∧ OwV w' w.heap.size A1 n1 c1 cells ∧ Rws w' w.heap.size cells (pays xs) ∧ Below w.heap.size w w' := by
  have HR := Lib.hid hr
  have hlen := hr.len
  have hfl := flist_len xs
  rw [hlen] at hfl
  have B0 := Lib.hid (Below.refl w.heap.size w)
  clear hr
  go_enter Tryd.func60, Tryd.ntmps60
  go_wp2
  go_loopw [4, 5] (fun r i wr => ∃ (p f : Nat) (pre : List (Nat × Nat)) (A1 : Option Addr) (n1 c1 : Nat) (cells : List Value), r = .slice A1 n1 c1 ∧ i = .int .i64 p ∧ p ≤ n ∧ n - p ≤ f ∧ pre.length = n1 ∧ Aside0 (pre ++ fitems f p (xs.drop p) = flist xs) ∧ Aside0 (p = endL pre) ∧ Aside0 (OwV wr w.heap.size A1 n1 c1 cells) ∧ Aside0 (Rws wr w.heap.size cells (pre.map (payK xs))) ∧ Aside0 (Below w.heap.size w wr)) (fun _ i _ => n - (intOf i).toNat)
  case atStart => exact ⟨0, n, [], none, 0, 0, [], rfl, rfl, by omega, by omega, rfl, ⟨by rw [← hlen]; rfl⟩, ⟨rfl⟩, ⟨OwV.nil _ _⟩, ⟨Rws.nil _ _⟩, ⟨B0.out⟩⟩
  case round =>
    obtain ⟨p, f, pre, A1, n1, c1, cells, rfl, rfl, hp, hf, hpn, HE, HP, HO, HRw, HB⟩ := hrel
    obtain ⟨A2, n2, c2, hcut, m1, m2, m3, hrd⟩ := cutL A n c p hp hc
    have HF := Lib.hid (reffirst_any A2 n2 c2 (xs.drop p) wr (hrd _ _ (HR.out.below HB.out)) m3)
    have hd := firstN_le (xs.drop p)
    have hg := firstN_ge (xs.drop p)
    rw [List.length_drop, hlen] at hd
    have hsz := HB.out.size
    clear hrd
    unfold RetFirst at HF
    by_cases h0 : firstN (xs.drop p) = 0
    · have hE := HE.out
      rw [fitems_end _ _ _ h0, List.append_nil] at hE
      have HEE := Lib.hid hE
      rw [h0] at HF
      clear hE h0 hd hg HE
      go_wp2_with fail
      refine HF.out.mono ?_
      rintro e w3 ⟨A3, n3, c3, rfl, ho, hb⟩
      have HB3 := Lib.hid (HB.out.trans (hb.mono hsz))
      have HO3 := Lib.hid (HO.out.below hb)
      have HR3 := Lib.hid (HRw.out.map fun a m c ys h => h.below hb)
      clear ho hb
      go_wp2
      refine bodyPost_ret (results_tmp2 rfl _ _ _) rfl ?_
      exact ⟨A1, n1, c1, cells, by rw [← HEE.out, ← HP.out]; rfl, HO3.out, by unfold pays; rw [← HEE.out]; exact HR3.out, HB3.out⟩
    · have hg8 := hg h0
      obtain ⟨f', rfl⟩ : ∃ f', f = f' + 1 := ⟨f - 1, by omega⟩
      have hE := HE.out
      rw [fitems_next _ _ _ h0, List.drop_drop] at hE
      have hpay : ((xs.drop p).drop 8).take (firstN (xs.drop p) - 8) = payK xs (p, firstN (xs.drop p) - 8) := by rw [List.drop_drop]; rfl
      rw [hpay] at HF
      generalize firstN (xs.drop p) = k at HF hd hg8 h0 hE
      have hlt : pre.length < (flist xs).length := by rw [← hE]; simp
      have HEE := Lib.hid hE
      have hkb : ((k : Int) == 0) = false := beq_eq_false_iff_ne.2 (by omega)
      clear hE hg hpay HE
      go_wp2_with fail
      refine HF.out.mono ?_
      rintro e w3 ⟨A3, n3, c3, rfl, ho, hb⟩
      have HB3 := Lib.hid (HB.out.trans (hb.mono hsz))
      have hs3 := HB3.out.size
      have HO3 := Lib.hid (HO.out.below hb)
      have HR3 := Lib.hid (HRw.out.snoc (HRw.out.map fun a m c ys h => h.below hb) (Nat.le_refl _) hsz ho)
      clear ho hb
      go_wp2_with (at_builtin; refine appV (w0 := w) (base := w.heap.size) rfl (.tmp 19) (.tmp 21) rfl rfl rfl HO3.out HB3.out hs3 (by omega) ?_; intro A4 n4 c4 w4 ho4 hb4 hg4; have hn4 := ho4.len; have HO4 := Lib.hid ho4; have HB4 := Lib.hid hb4; have HR4 := Lib.hid (HR3.out.map fun a m c ys h => OwB.keptT h hg4 (OwV.row HO3.out)); clear ho4 hb4 hg4)
      go_roundw
      case rel => exact ⟨p + k, f', pre ++ [(p, k - 8)], A4, n4, c4, _, rfl, by go_num, by omega, by omega, by rw [← hn4, List.length_append, List.length_append, HO3.out.len, hpn]; rfl, ⟨by rw [← HEE.out]; simp⟩, ⟨by rw [endL_snoc]; show p + k = p + 8 + (k - 8); omega⟩, ⟨HO4.out⟩, ⟨by rw [List.map_append]; exact HR4.out⟩, ⟨HB4.out⟩⟩
      case measure => simp [intOf]; omega
end Go.Proofs.YtfinaikgikifcaaDoor.framer
/- What the law's alike computes; the law's reading of slices of slices. -/
namespace Go.Proofs.YtfinaikgikifcaaDoor.framer
open Go.RowKit Go.Proofs.YtfinaikgikifcaaDoorW.PrintWords Go.Proofs.YtfinaikgikifcaaDoor.base Go.Proofs.YtfinaikgikifcaaDoor.mem Go.Proofs.YtfinaikgikifcaaDoor.crcp Go.Proofs.YtfinaikgikifcaaDoor.crcw Go.Proofs.YtfinaikgikifcaaDoor.samew Go.Proofs.YtfinaikgikifcaaDoor.keep Go.Proofs.YtfinaikgikifcaaDoor.framep Go.Proofs.YtfinaikgikifcaaDoor.framew Go.Proofs.YtfinaikgikifcaaDoor.frameit Go.Proofs.YtfinaikgikifcaaDoor.framem Go.Proofs.YtfinaikgikifcaaDoor.framel Go.Proofs.YtfinaikgikifcaaDoor.framea

def eqLL (xs ys : List (List Int)) : Bool := decide (xs = ys)
theorem eqLL_self (xs : List (List Int)) : eqLL xs xs = true := decide_eq_true rfl
theorem eqLL_ne {xs ys : List (List Int)} (h : xs ≠ ys) : eqLL xs ys = false := decide_eq_false h
theorem RdBB.drawn {w : World} {A : Option Addr} {n : Nat} {xs : List (List Int)} (h : RdBB w A n xs) (k : Nat) : RdBB (w.drewN k) A n xs := h.below (pw_below_drewN (Below.refl _ _) k)
set_option maxHeartbeats 1000000 in
theorem alike_any (A : Option Addr) (n c : Nat) (xs : List (List Int)) (A' : Option Addr) (n' c' : Nat) (ys : List (List Int)) (w : World) (hx : RdBB w A n xs) (hy : RdBB w A' n' ys) :
    Calls Tryd.prog 14 #[.slice A n c, .slice A' n' c'] w fun e w' => e = .returned (.bool (eqLL xs ys)) ∧ Drawn0 w w' := by
  have HX := Lib.hid hx
  have HY := Lib.hid hy
  have hn := hx.2.1
  have hn' := hy.2.1
  clear hx hy
  by_cases hlen : n = n'
  · subst hlen
    clear hn'
    go_enter Tryd.func14, Tryd.ntmps14
    go_wp2
    go_loopw [5, 13] (fun _ i wr => ∃ k : Nat, k ≤ n ∧ i = .int .i64 k ∧ Aside0 (xs.take k = ys.take k) ∧ Drawn0 w wr) (fun _ i _ => n - (intOf i).toNat)
    case atStart => exact ⟨0, by omega, rfl, ⟨rfl⟩, Drawn0.refl _⟩
    case round =>
      obtain ⟨k, hk, rfl, HE, HD⟩ := hrel
      have HXr : Hid (RdBB wr A n xs) := Lib.hid (by obtain ⟨q, rfl⟩ := HD; exact RdBB.drawn HX.out q)
      have HYr : Hid (RdBB wr A' n ys) := Lib.hid (by obtain ⟨q, rfl⟩ := HD; exact RdBB.drawn HY.out q)
      by_cases hlt : k < n
      · obtain ⟨ad, rfl, a1, m1, c1, hcx, hc1, hr1⟩ := HXr.out.at_ k hlt
        obtain ⟨ad', rfl, a2, m2, c2, hcy, hc2, hr2⟩ := HYr.out.at_ k hlt
        have H1 := Lib.hid hr1
        have H2 := Lib.hid hr2
        clear hr1 hr2
        by_cases hne : xs.getD k [] = ys.getD k []
        · have h2 : xs.take (k + 1) = ys.take (k + 1) := by rw [take_snoc2 xs k (by rw [HX.out.1]; exact hlt), take_snoc2 ys k (by rw [HY.out.1]; exact hlt), HE.out, hne]
          rw [← hne] at H2
          have HT := Aside0.mk h2
          generalize xs.getD k [] = x at H1 H2
          have HS : Hid (∀ q, Calls Tryd.prog 13 #[.slice a1 m1 c1, .slice a2 m2 c2] (wr.drewN q) fun e w' => e = .returned (.bool true) ∧ Drawn0 (wr.drewN q) w') := Lib.hid fun q => by
            have := same_any a1 m1 c1 x a2 m2 c2 x (wr.drewN q) (H1.out.drawn q) (H2.out.drawn q)
            rwa [eqL_self] at this
          clear h2 hne
          go_wp2
          go_quiet ((go_at_call 13; exact Calls.quiet_of ((HS.out _).mono fun _ _ h => ⟨h.1, h.2.out⟩)))
          go_wp2
          go_roundw
          case rel => exact ⟨k + 1, by omega, by go_num, HT, HD.step _⟩
          case measure => simp [intOf]; omega
        · have HF : Hid (eqLL xs ys = false) := Lib.hid (eqLL_ne fun e => hne (by rw [e]))
          have HS : Hid (∀ q, Calls Tryd.prog 13 #[.slice a1 m1 c1, .slice a2 m2 c2] (wr.drewN q) fun e w' => e = .returned (.bool false) ∧ Drawn0 (wr.drewN q) w') := Lib.hid fun q => by
            have := same_any a1 m1 c1 _ a2 m2 c2 _ (wr.drewN q) (H1.out.drawn q) (H2.out.drawn q)
            rwa [eqL_ne hne] at this
          clear hne
          go_wp2
          go_quiet ((go_at_call 13; exact Calls.quiet_of ((HS.out _).mono fun _ _ h => ⟨h.1, h.2.out⟩)))
          go_wp2
          go_ret
          exact ⟨by rw [HF.out]; rfl, HD.step _⟩
      · obtain rfl : k = n := by omega
        have HF : Hid (eqLL xs ys = true) := Lib.hid (by
          have h := HE.out
          rw [List.take_of_length_le (by have := HX.out.1; omega), List.take_of_length_le (by have := HY.out.1; omega)] at h
          rw [h]; exact eqLL_self _)
        go_wp2
        go_ret
        exact ⟨by rw [HF.out]; rfl, HD⟩
  · have HF : Hid (eqLL xs ys = false) := Lib.hid (eqLL_ne fun e => hlen (by rw [← HX.out.1, ← HY.out.1, e]))
    have hb : ((n : Int) != (n' : Int)) = true := by rw [bne_iff_ne]; omega
    clear hlen
    go_enter Tryd.func14, Tryd.ntmps14
    go_wp2
    go_ret
    exact ⟨by rw [HF.out]; rfl, Drawn0.refl _⟩
end Go.Proofs.YtfinaikgikifcaaDoor.framer
/- What a walk over the frames knows of memory; both ways out of the loop joined. -/
namespace Go.Proofs.YtfinaikgikifcaaDoor.framen
open Go.RowKit Go.Shelf Go.Proofs.YtfinaikgikifcaaDoorW.PrintWords Go.Proofs.YtfinaikgikifcaaDoor.base Go.Proofs.YtfinaikgikifcaaDoor.mem Go.Proofs.YtfinaikgikifcaaDoor.crcp Go.Proofs.YtfinaikgikifcaaDoor.crcw Go.Proofs.YtfinaikgikifcaaDoor.samew Go.Proofs.YtfinaikgikifcaaDoor.keep Go.Proofs.YtfinaikgikifcaaDoor.framep Go.Proofs.YtfinaikgikifcaaDoor.framew Go.Proofs.YtfinaikgikifcaaDoor.frameit Go.Proofs.YtfinaikgikifcaaDoor.framem Go.Proofs.YtfinaikgikifcaaDoor.framel Go.Proofs.YtfinaikgikifcaaDoor.framea Go.Proofs.YtfinaikgikifcaaDoor.framer Go.Proofs.YtfinaikgikifcaaDoor.over

theorem prefix_at {α : Type} {pre L : List α} {x : α} (h : pre ++ [x] <+: L) : L[pre.length]? = some x := by
  obtain ⟨t, rfl⟩ := h
  simp
/-- the places are one behind the other -/
theorem fitems_place : ∀ (pre : List (Nat × Nat)) (f p : Nat) (xs : List Int) (x : Nat × Nat), pre ++ [x] <+: fitems f p xs → x.1 = (match pre.getLast? with | none => p | some y => y.1 + 8 + y.2) := by
  intro pre
  induction pre with
  | nil =>
    intro f p xs x h
    cases f with
    | zero => simp [fitems] at h
    | succ f =>
      by_cases h0 : firstN xs = 0
      · rw [fitems_end _ _ _ h0] at h; simp at h
      · rw [fitems_next _ _ _ h0] at h
        obtain ⟨t, ht⟩ := h
        simp at ht
        obtain ⟨rfl, _⟩ := ht
        rfl
  | cons y pre ih =>
    intro f p xs x h
    cases f with
    | zero => simp [fitems] at h
    | succ f =>
      by_cases h0 : firstN xs = 0
      · rw [fitems_end _ _ _ h0] at h; simp at h
      · rw [fitems_next _ _ _ h0] at h
        have hg := firstN_ge xs h0
        rw [List.cons_append, List.cons_prefix_cons] at h
        obtain ⟨hy, h⟩ := h
        have := ih _ _ _ _ h
        rw [this]
        cases pre with
        | nil => subst hy; simp; omega
        | cons z pre => rfl
theorem flist_place {pre : List (Nat × Nat)} {x : Nat × Nat} {xs : List Int} (h : pre ++ [x] <+: flist xs) : x.1 = endL pre := by
  have := fitems_place pre _ _ _ _ h
  rw [this]
  unfold endL
  cases pre.getLast? <;> rfl
theorem V.place {xs : List Int} {B : Nat} {pre : List It} {x : It} {W : World} (h : V xs B pre x W) : x.p = endOf pre := by
  have h1 := h.1
  rw [List.map_append] at h1
  exact flist_place h1
theorem V.pays {xs : List Int} {B : Nat} {pre : List It} {x : It} {W : World} (h : V xs B pre x W) : (pays xs).getD pre.length [] = pay xs x := by
  have h1 := h.1
  rw [List.map_append] at h1
  have h2 := prefix_at h1
  rw [List.length_map] at h2
  unfold framea.pays
  rw [List.getD_eq_getElem?_getD, List.getElem?_map, h2]
  rfl
theorem pays_len (xs : List Int) : (pays xs).length = (flist xs).length := by simp [pays]
/-- a box of one whole number -/
def PC (p : Nat) (v : Int) (W : World) : Prop := W.cell? ⟨p, 0, none⟩ = some (.int .i64 v) ∧ W.frozen? ⟨p, 0, none⟩ = false
/-- what lay ahead of the loops, and the blocks of deferred calls -/
def FM (w4 : World) (ds : List Nat) (W : World) : Prop := Below w4.heap.size w4 W ∧ ∀ D ∈ ds, W.heap[D]? = some (.deferred (some []))
section
variable {p : Nat} {v : Int} {ds : List Nat} {w4 W W' : World}
theorem PC.own (h : PC p v W) {row : Option Nat} (hg : W.grownBy W' row) (hr : ∀ r, row = some r → ∃ o : Obj, W.heap[r]? = some o ∧ o.isCells = false) : PC p v W' := ⟨cell_kept h.1 hg hr, (frozen_kept h.1 hg hr).trans h.2⟩
theorem PC.below (h : PC p v W) (hb : Below W.heap.size W W') : PC p v W' := ⟨pw_cell_below hb h.1, (hb.frozen (p := ⟨p, 0, none⟩) (World.block_lt_of_cell? _ _ h.1)).trans h.2⟩
theorem PC.new (W : World) (t : TypeId) (v : Int) : PC W.heap.size v (W.alloc (.cells #[.int .i64 v] t)) := ⟨by simp, by simp⟩
theorem PC.set (h : PC p v W) (v' : Int) : PC p v' (W.setCell ⟨p, 0, none⟩ (.int .i64 v')) := ⟨World.cell?_setCell_same' _ _ _ (by rw [h.1]; rfl), by rw [World.frozen?_setCell]; exact h.2⟩
theorem PC.other (h : PC p v W) {q : Nat} (hq : q ≠ p) (u : Value) : PC p v (W.setCell ⟨q, 0, none⟩ u) := ⟨by rw [World.cell?_setCell_other _ _ _ _ (by intro e; injection e with e; exact hq e)]; exact h.1, by rw [World.frozen?_setCell]; exact h.2⟩
theorem PC.ck (h : PC p v W) (hk : CK W W') : PC p v W' := by
  obtain ⟨o, ho, hc⟩ := cells_of_cell h.1
  exact ⟨hk.cell h.1, (World.frozen?_of_block ((hk.2 _ _ ho hc).trans ho.symm)).trans h.2⟩
theorem FM.own {B : Nat} (h : FM w4 ds W) {row : Option Nat} (hg : W.grownBy W' row) (hr : ∀ r, row = some r → B ≤ r ∧ ∃ o : Obj, W.heap[r]? = some o ∧ o.isCells = false) (hB : w4.heap.size ≤ B) (hD : ∀ D ∈ ds, D < B) : FM w4 ds W' :=
  ⟨h.1.grown hg h.1.size (fun k e => Nat.le_trans hB (hr k e).1), fun D hd => by
    rw [hg.block D (Array.getElem?_eq_some_iff.1 (h.2 D hd)).1 (fun e => by have := (hr D e.symm).1; have := hD D hd; omega)]
    exact h.2 D hd⟩
theorem FM.below (h : FM w4 ds W) (hb : Below W.heap.size W W') : FM w4 ds W' :=
  ⟨h.1.trans (hb.mono h.1.size), fun D hd => by rw [hb.block D (Array.getElem?_eq_some_iff.1 (h.2 D hd)).1]; exact h.2 D hd⟩
theorem FM.set (h : FM w4 ds W) (hp : w4.heap.size ≤ p) (hD : ∀ D ∈ ds, D ≠ p) (v : Value) : FM w4 ds (W.setCell ⟨p, 0, none⟩ v) :=
  ⟨h.1.setCell (p := ⟨p, 0, none⟩) hp _, fun D hd => by rw [Below.heap_setCell _ _ _ _ (hD D hd)]; exact h.2 D hd⟩
theorem FM.more (h : FM w4 ds W) {D : Nat} (hD : W.heap[D]? = some (.deferred (some []))) : FM w4 (D :: ds) W :=
  ⟨h.1, fun E hE => by
    rcases List.mem_cons.1 hE with rfl | hE
    · exact hD
    · exact h.2 E hE⟩
end
theorem KT.past {lo hi p : Nat} {W : World} (hw : hi ≤ W.heap.size) (hp : hi ≤ p) (hg : p ≠ 0) (v : Value) : KT lo hi W (W.setCell ⟨p, 0, none⟩ v) :=
  ⟨(Band.refl hw).set (.inr hp) _ _, fun t i hi => by
    rw [World.cell?_setCell_other _ _ _ _ (by intro e; injection e with e; exact hg e)]
    exact t i hi, by simp [World.setCell]⟩
theorem overF {Q : Exit → Act → World → Prop} {g : Operand} {ps : Array Tmp} {assign body : Code} {a : Act} {W0 : World} {Bs lo hi : Nat} {xs : List Int}
    (hg : a.eval g = .func (.func 62) #[] #[.pointer (some ⟨Bs, 0, none⟩)]) (hN : NumsAt lo hi W0 Bs xs) (hhi : hi ≤ W0.heap.size) (hT : Table W0) (hps : 2 = ps.size)
    (I : List It → World → Prop) (Ix : Code → List It → World → Prop) (hI : OwnFrom W0.heap.size I) (hIx : ∀ c, OwnFrom W0.heap.size (Ix c)) (h0 : I [] W0) (J : World → Prop) (id : Nat) (a₁ : It → Act)
    (hassign : ∀ (l : Nat) (x : It) (W : World) (K : Act → World → Prop), K (a₁ x) W →
      assign.wpIn (Fence.wide.inRound l) (6 - 1 - 1) Tryd.prog (Exit.then K (fun _ _ _ => False)) { tmps := (ps.zip (encs x)).foldl (fun t (p, v) => t.setIfInBounds p v) a.tmps, defers := [] } W)
    (hbody : ∀ (l : Nat) (pre : List It) (x : It) (Wa W : World), I pre Wa → I pre W → W0.heap.size ≤ Wa.heap.size → CK Wa W → V xs Wa.heap.size pre x W → body.wpIn (Fence.wide.inRound l) (6 - 1 - 1) Tryd.prog (ownPostG W0.heap.size (KT lo hi) I Ix (pre ++ [x]) W) (a₁ x) W)
    (hS : ∀ ys W, ys.map It.key = flist xs → I ys W → J W) (hSp : ∀ c pre W, pre.map It.key <+: flist xs → Ix c pre W → c = .exit id ∧ J W ∧ ∀ a w, Q .normal a w → Q (.exit id) a w)
    (hend : ∀ (D : Nat) (W : World), W0.heap.size ≤ D → J W → W.heap[D]? = some (.deferred (some [])) → Q .normal { a with defers := { target := .collected D, args := #[] } :: a.defers } W) :
    (Code.rangeFunc g ps assign body).wpIn Fence.wide 6 Tryd.prog Q a W0 := by
  refine wpIn_overV rfl (by decide) (gf := 62) (lb := #[.pointer (some ⟨Bs, 0, none⟩)]) hg trivial (enters_of Tryd.func62 (by kernel_rfl) rfl) (all_v (6 - 1) (by decide) Bs lo hi xs W0 hhi hN hT) (fun h k => KT.trans h k) (KT.put hhi hT) (Below.refl _ _) (fun _ => hps) (fun B => V.own B) I Ix hI hIx h0 a₁ hassign hbody ?_ ?_
  · rintro D ys W hD hS' hi hK
    exact hend D W hD (hS ys W hS' hi) hK
  · rintro D c pre W hD hp hx hK
    obtain ⟨rfl, hJ, hq⟩ := hSp c pre W hp hx
    exact wpIn_exit (hq _ _ (hend D W hD hJ hK))
theorem nilSeqIn (d f : Nat) (e : Array Value) (W : World) : (Op.equalIn (d + 1) 87 (.func (.func f) #[] e) .nilFunc).run Tryd.prog W = .ok false W := by
  simp [Op.equalIn, run_underlying Tryd.underlying87]
theorem nilSeqEq (f : Nat) (e : Array Value) (W : World) : (Op.equal 87 (.func (.func f) #[] e) .nilFunc).run Tryd.prog W = .ok false W := nilSeqIn 9999 f e W
theorem nilSeq (f : Nat) (e : Array Value) (W : World) : (binOp .eql 87 (.func (.func f) #[] e) .nilFunc).run Tryd.prog W = .ok (.bool false) W := by
  simp only [binOp]
  simp [nilSeqEq]
theorem leavesAll {F : Fence} {n : Nat} {P : Program} {fn : Func} {tmps : Array Value} {R : Ending → World → Prop} (b0 : Nat) : ∀ (ds : List Nat) (w : World), ds.Nodup → (∀ D ∈ ds, b0 ≤ D) → (∀ D ∈ ds, w.heap[D]? = some (.deferred (some []))) →
    (∀ w', (∀ b v, w.cell? ⟨b, 0, none⟩ = some v → w'.cell? ⟨b, 0, none⟩ = some v) → Below b0 w w' → LeavesIn F n P fn tmps R [] .returning w') → LeavesInM F n P fn tmps R (ds.map fun D => { target := .collected D, args := #[] }) .returning w := by
  intro ds
  induction ds with
  | nil => intro w _ _ _ h; exact h w (fun _ _ h => h) (Below.refl _ _)
  | cons D ds ih =>
    intro w hn hb hd h
    have hK := hd D (by simp)
    refine ⟨by simp, .inl ⟨D, _, rfl, run_takeDeferred hK, ?_⟩⟩
    have hlt := (Array.getElem?_eq_some_iff.1 hK).1
    have hbl : Below b0 w (w.putObj D (.deferred none)) := (Below.refl b0 w).grown (grownBy_putObj' w D _) (Nat.le_trans (hb D (by simp)) (Nat.le_of_lt hlt)) (fun k e => by cases e; exact hb D (by simp))
    have hcell : ∀ b v, w.cell? ⟨b, 0, none⟩ = some v → (w.putObj D (.deferred none)).cell? ⟨b, 0, none⟩ = some v := fun b v hc => cell_kept hc (grownBy_putObj' _ D (.deferred none)) (fun r e => by cases e; exact ⟨_, hK, rfl⟩)
    refine ih _ (List.nodup_cons.1 hn).2 (fun E hE => hb E (by simp [hE])) (fun E hE => ?_) (fun w' h1 h2 => h w' (fun b v hc => h1 b v (hcell b v hc)) (hbl.trans h2))
    have hne : E ≠ D := fun e => (List.nodup_cons.1 hn).1 (e ▸ hE)
    rw [World.putObj_heap_other hne]
    exact hd E (by simp [hE])
end Go.Proofs.YtfinaikgikifcaaDoor.framen
/- What is true of frames one behind the other: plain laws. -/
namespace Go.Proofs.YtfinaikgikifcaaDoor.framen
open Go.RowKit Go.Shelf Go.Proofs.YtfinaikgikifcaaDoorW.PrintWords Go.Proofs.YtfinaikgikifcaaDoor.base Go.Proofs.YtfinaikgikifcaaDoor.mem Go.Proofs.YtfinaikgikifcaaDoor.crcp Go.Proofs.YtfinaikgikifcaaDoor.crcw Go.Proofs.YtfinaikgikifcaaDoor.samew Go.Proofs.YtfinaikgikifcaaDoor.keep Go.Proofs.YtfinaikgikifcaaDoor.framep Go.Proofs.YtfinaikgikifcaaDoor.framew Go.Proofs.YtfinaikgikifcaaDoor.frameit Go.Proofs.YtfinaikgikifcaaDoor.framem Go.Proofs.YtfinaikgikifcaaDoor.framel Go.Proofs.YtfinaikgikifcaaDoor.framea Go.Proofs.YtfinaikgikifcaaDoor.framer

/-! ### one frame behind the other, without places -/
def fp : Nat → List Int → List (List Int)
  | 0, _ => []
  | f + 1, xs => if firstN xs = 0 then [] else (xs.drop 8).take (firstN xs - 8) :: fp f (xs.drop (firstN xs))
def fe : Nat → List Int → Nat
  | 0, _ => 0
  | f + 1, xs => if firstN xs = 0 then 0 else firstN xs + fe f (xs.drop (firstN xs))
theorem firstN_pos {xs : List Int} (h : firstN xs ≠ 0) : 8 ≤ firstN xs ∧ firstN xs ≤ xs.length := ⟨firstN_ge _ h, firstN_le _⟩
theorem fp_fuel : ∀ (f g : Nat) (xs : List Int), xs.length ≤ f → xs.length ≤ g → fp f xs = fp g xs ∧ fe f xs = fe g xs := by
  intro f
  induction f with
  | zero =>
    intro g xs hf hg
    obtain rfl : xs = [] := List.eq_nil_of_length_eq_zero (by omega)
    cases g with
    | zero => exact ⟨rfl, rfl⟩
    | succ g => exact ⟨rfl, rfl⟩
  | succ f ih =>
    intro g xs hf hg
    by_cases h : firstN xs = 0
    · cases g with
      | zero => simp [fp, fe, h]
      | succ g => simp [fp, fe, h]
    · obtain ⟨h1, h2⟩ := firstN_pos h
      cases g with
      | zero => omega
      | succ g =>
        obtain ⟨e1, e2⟩ := ih g (xs.drop (firstN xs)) (by rw [List.length_drop]; omega) (by rw [List.length_drop]; omega)
        simp only [fp, fe, if_neg h, e1, e2]
        exact ⟨trivial, trivial⟩
def P (xs : List Int) : List (List Int) := fp xs.length xs
def E (xs : List Int) : Nat := fe xs.length xs
theorem P_stop {xs : List Int} (h : firstN xs = 0) : P xs = [] ∧ E xs = 0 := by
  unfold P E
  cases xs.length with
  | zero => exact ⟨rfl, rfl⟩
  | succ f => simp [fp, fe, h]
theorem P_next {xs : List Int} (h : firstN xs ≠ 0) : P xs = (xs.drop 8).take (firstN xs - 8) :: P (xs.drop (firstN xs)) ∧ E xs = firstN xs + E (xs.drop (firstN xs)) := by
  obtain ⟨h1, h2⟩ := firstN_pos h
  obtain ⟨f, hf⟩ : ∃ f, xs.length = f + 1 := ⟨xs.length - 1, by omega⟩
  obtain ⟨e1, e2⟩ := fp_fuel f (xs.drop (firstN xs)).length (xs.drop (firstN xs)) (by rw [List.length_drop]; omega) (Nat.le_refl _)
  unfold P E
  rw [hf]
  simp only [fp, fe, if_neg h, e1, e2]
  exact ⟨trivial, trivial⟩
/-- the last place behind p -/
def endP (p : Nat) (L : List (Nat × Nat)) : Nat := match L.getLast? with | none => p | some x => x.1 + 8 + x.2
theorem endL_P (L : List (Nat × Nat)) : endL L = endP 0 L := rfl
theorem fitems_fp : ∀ (f p : Nat) (xs ys : List Int), ys = xs.drop p → (fitems f p ys).map (payK xs) = fp f ys ∧ endP p (fitems f p ys) = p + fe f ys := by
  intro f
  induction f with
  | zero => intro p xs ys h; exact ⟨rfl, rfl⟩
  | succ f ih =>
    intro p xs ys h
    by_cases h0 : firstN ys = 0
    · rw [fitems_end _ _ _ h0]; simp [fp, fe, h0, endP]
    · rw [fitems_next _ _ _ h0]
      obtain ⟨e1, e2⟩ := ih (p + firstN ys) xs (ys.drop (firstN ys)) (by rw [h, List.drop_drop])
      have hg := firstN_ge ys h0
      refine ⟨?_, ?_⟩
      · simp only [List.map_cons, fp, if_neg h0, e1]
        congr 1
        unfold payK
        rw [h, List.drop_drop]
      · simp only [fe, if_neg h0]
        rw [← Nat.add_assoc, ← e2]
        unfold endP
        cases hl : fitems f (p + firstN ys) (ys.drop (firstN ys)) with
        | nil => simp; omega
        | cons z zs => simp [List.getLast?_cons]
theorem pays_P (xs : List Int) : pays xs = P xs := (fitems_fp xs.length 0 xs xs rfl).1
theorem end_E (xs : List Int) : endL (flist xs) = E xs := by
  have := (fitems_fp xs.length 0 xs xs rfl).2
  rw [endL_P]
  unfold flist
  rw [this]
  unfold E
  omega
theorem P_len : ∀ (n : Nat) (xs : List Int), xs.length ≤ n → (P xs).length * 8 ≤ xs.length := by
  intro n xs _
  rw [← pays_P, pays_len]
  exact flist_len xs
/-! ### a frame, and what stands behind -/
theorem P_fenc (p more : List Int) (h : p.length ≤ 1048576) : P (fenc p ++ more) = p :: P more ∧ E (fenc p ++ more) = 8 + p.length + E more := by
  have e := firstN_fenc p more h
  obtain ⟨h1, h2⟩ := P_next (xs := fenc p ++ more) (by omega)
  rw [e, List.drop_left' (fenc_len p)] at h1 h2
  refine ⟨?_, h2⟩
  rw [h1]
  have : (fenc p ++ more).drop 8 = p ++ more := rfl
  rw [this, show 8 + p.length - 8 = p.length from by omega, List.take_left]
/-- frames one behind the other -/
def fencs (ps : List (List Int)) : List Int := ps.flatMap fenc
theorem fencs_snoc (ps : List (List Int)) (p : List Int) : fencs (ps ++ [p]) = fencs ps ++ fenc p := by simp [fencs]
theorem fencs_len (ps : List (List Int)) : (fencs ps).length = ps.length * 8 + ps.flatten.length := by
  induction ps with
  | nil => rfl
  | cons p ps ih => simp only [fencs, List.flatMap_cons, List.length_append, List.flatten_cons, List.length_cons] at ih ⊢; rw [ih, fenc_len]; omega
theorem P_fencs (ps : List (List Int)) (more : List Int) (h : ∀ p ∈ ps, p.length ≤ 1048576) : P (fencs ps ++ more) = ps ++ P more ∧ E (fencs ps ++ more) = (fencs ps).length + E more := by
  induction ps with
  | nil => exact ⟨rfl, by simp [fencs]⟩
  | cons p ps ih =>
    obtain ⟨e1, e2⟩ := ih fun q hq => h q (by simp [hq])
    obtain ⟨e3, e4⟩ := P_fenc p (fencs ps ++ more) (h p (by simp))
    have hs : fencs (p :: ps) ++ more = fenc p ++ (fencs ps ++ more) := by simp [fencs]
    rw [hs, e3, e4, e1, e2]
    refine ⟨rfl, ?_⟩
    have : fencs (p :: ps) = fenc p ++ fencs ps := by simp [fencs]
    rw [this, List.length_append, fenc_len]
    omega
/-! ### a beginning -/
theorem w4_take {xs : List Int} {k : Nat} (h : 4 ≤ k) : w4 (xs.take k) = w4 xs := by
  unfold w4
  simp only [List.getD_eq_getElem?_getD, List.getElem?_take, if_pos (show 0 < k by omega), if_pos (show 1 < k by omega), if_pos (show 2 < k by omega), if_pos (show 3 < k by omega)]
theorem firstN_take {xs : List Int} {k : Nat} (hk : k ≤ xs.length) (h : firstN (xs.take k) ≠ 0) : firstN xs = firstN (xs.take k) := by
  have hl : (xs.take k).length = k := by rw [List.length_take]; omega
  have h8 := firstN_pos h
  rw [hl] at h8
  have hw : w4 (xs.take k) = w4 xs := w4_take (by omega)
  have e1 : (xs.take k).take 4 = xs.take 4 := by rw [List.take_take]; congr 1; omega
  have e3 : w4 ((xs.take k).drop 4) = w4 (xs.drop 4) := by rw [List.drop_take]; exact w4_take (by omega)
  have hR : firstN (xs.take k) = if 1048576 < (w4 xs).toNat ∨ k - 8 < (w4 xs).toNat ∨ parts 0 [xs.take 4, ((xs.take k).drop 8).take (w4 xs).toNat] ≠ w4 (xs.drop 4) then 0 else 8 + (w4 xs).toNat := by
    conv => lhs; unfold firstN
    rw [hl, hw, e1, e3, if_neg (by omega)]
  have hL : firstN xs = if 1048576 < (w4 xs).toNat ∨ xs.length - 8 < (w4 xs).toNat ∨ parts 0 [xs.take 4, (xs.drop 8).take (w4 xs).toNat] ≠ w4 (xs.drop 4) then 0 else 8 + (w4 xs).toNat := by
    conv => lhs; unfold firstN
    rw [if_neg (by omega)]
  generalize (w4 xs).toNat = v at hR hL
  rw [hR] at h ⊢
  by_cases hc : 1048576 < v ∨ k - 8 < v ∨ parts 0 [xs.take 4, ((xs.take k).drop 8).take v] ≠ w4 (xs.drop 4)
  · rw [if_pos hc] at h; exact absurd rfl h
  · have h1 : ¬ 1048576 < v := fun e => hc (.inl e)
    have h2 : ¬ k - 8 < v := fun e => hc (.inr (.inl e))
    have e2 : ((xs.take k).drop 8).take v = (xs.drop 8).take v := by rw [List.drop_take, List.take_take]; congr 1; omega
    rw [if_neg hc, hL, if_neg]
    rw [e2] at hc
    exact fun e => hc (by
      rcases e with e | e | e
      · exact .inl e
      · exact absurd e (by omega)
      · exact .inr (.inr e))
theorem heads : ∀ (n : Nat) (xs : List Int) (k : Nat), xs.length ≤ n → k ≤ xs.length → P (xs.take k) <+: P xs ∧ E (xs.take k) ≤ k ∧ E (xs.take k) ≤ E xs := by
  intro n
  induction n with
  | zero =>
    intro xs k hn hk
    obtain rfl : xs = [] := List.eq_nil_of_length_eq_zero (by omega)
    simp only [List.take_nil]
    exact ⟨List.prefix_refl _, Nat.zero_le _, Nat.le_refl _⟩
  | succ n ih =>
    intro xs k hn hk
    by_cases h0 : firstN (xs.take k) = 0
    · obtain ⟨e1, e2⟩ := P_stop h0
      rw [e1, e2]
      exact ⟨List.nil_prefix, Nat.zero_le _, Nat.zero_le _⟩
    · have hj := firstN_take hk h0
      have hl : (xs.take k).length = k := by rw [List.length_take]; omega
      have h8 := firstN_pos h0
      rw [hl] at h8
      obtain ⟨e1, e2⟩ := P_next h0
      obtain ⟨e3, e4⟩ := P_next (xs := xs) (by rw [hj]; exact h0)
      rw [e1, e2, e3, e4, hj]
      generalize firstN (xs.take k) = j at h8
      have ed : (xs.take k).drop j = (xs.drop j).take (k - j) := List.drop_take ..
      have ep : ((xs.take k).drop 8).take (j - 8) = (xs.drop 8).take (j - 8) := by rw [List.drop_take, List.take_take]; congr 1; omega
      obtain ⟨i1, i2, i3⟩ := ih (xs.drop j) (k - j) (by rw [List.length_drop]; omega) (by rw [List.length_drop]; omega)
      rw [ed, ep]
      exact ⟨List.cons_prefix_cons.2 ⟨rfl, i1⟩, by omega, by omega⟩
theorem E_le (xs : List Int) : E xs ≤ xs.length := by
  have := (heads xs.length xs xs.length (Nat.le_refl _) (Nat.le_refl _)).2.1
  rwa [List.take_length] at this
/-- a frame cut short is none -/
theorem torn (p : List Int) (k : Nat) (h : p.length ≤ 1048576) (hk : k < (fenc p).length) : P ((fenc p).take k) = [] ∧ E ((fenc p).take k) = 0 := by
  refine P_stop ?_
  by_cases h0 : firstN ((fenc p).take k) = 0
  · exact h0
  · have h1 := firstN_take (Nat.le_of_lt hk) h0
    have h2 := firstN_fenc p [] h
    rw [List.append_nil] at h2
    have h3 := firstN_le ((fenc p).take k)
    rw [List.length_take] at h3
    rw [fenc_len] at hk
    omega
end Go.Proofs.YtfinaikgikifcaaDoor.framen
/- What a vault does: plain Lean. -/
namespace Go.Proofs.YtfinaikgikifcaaDoor.vaultp
open Go.RowKit Go.Shelf Go.Proofs.YtfinaikgikifcaaDoorW.PrintWords Go.Proofs.YtfinaikgikifcaaDoor.base Go.Proofs.YtfinaikgikifcaaDoor.mem Go.Proofs.YtfinaikgikifcaaDoor.samew Go.Proofs.YtfinaikgikifcaaDoor.framep Go.Proofs.YtfinaikgikifcaaDoor.frameit Go.Proofs.YtfinaikgikifcaaDoor.framem Go.Proofs.YtfinaikgikifcaaDoor.framel Go.Proofs.YtfinaikgikifcaaDoor.framea Go.Proofs.YtfinaikgikifcaaDoor.framer Go.Proofs.YtfinaikgikifcaaDoor.framen Go.Proofs.YtfinaikgikifcaaDoor.diskp Go.Proofs.YtfinaikgikifcaaDoor.diskr Go.Proofs.YtfinaikgikifcaaDoor.diskw

/-- eight bytes, the lowest first -/
def byte8 (g : Int) (i : Nat) : Int := g / 2 ^ (8 * i) % 256
def le8 (g : Int) : List Int := (List.range 8).map (byte8 g)
def leK (g : Int) (k : Nat) : List Int := (List.range k).map (byte8 g)
theorem leK_next (g : Int) (k : Nat) : leK g (k + 1) = leK g k ++ [byte8 g k] := by unfold leK; rw [List.range_succ, List.map_append]; rfl
theorem le8_len (g : Int) : (le8 g).length = 8 := by simp [le8]
theorem leK_len (g : Int) (k : Nat) : (leK g k).length = k := by simp [leK]
theorem byte8_range (g : Int) (i : Nat) : 0 ≤ byte8 g i ∧ byte8 g i ≤ 255 := by unfold byte8; omega
theorem By_le8 (g : Int) : By (le8 g) := By_of _ fun z hz => by
  simp only [le8, List.mem_map] at hz
  obtain ⟨i, _, rfl⟩ := hz
  exact byte8_range g i
/-- the first frame of a file: a generation and a snapshot -/
def firstB (g : Int) (s : List Int) : List Int := fenc (le8 g ++ s)
def firstR (g : Int) (s : List Int) : List Int × Int := if 8 + s.length ≤ 1048576 then (firstB g s, 0) else ([], 3)
end Go.Proofs.YtfinaikgikifcaaDoor.vaultp
/- What the vault's small functions compute. -/
namespace Go.Proofs.YtfinaikgikifcaaDoor.vaultw
open Go.RowKit Go.Shelf Go.Proofs.YtfinaikgikifcaaDoorW.PrintWords Go.Proofs.YtfinaikgikifcaaDoor.base Go.Proofs.YtfinaikgikifcaaDoor.mem Go.Proofs.YtfinaikgikifcaaDoor.keep Go.Proofs.YtfinaikgikifcaaDoor.crcp Go.Proofs.YtfinaikgikifcaaDoor.crcw Go.Proofs.YtfinaikgikifcaaDoor.samew Go.Proofs.YtfinaikgikifcaaDoor.framep Go.Proofs.YtfinaikgikifcaaDoor.framew Go.Proofs.YtfinaikgikifcaaDoor.frameit Go.Proofs.YtfinaikgikifcaaDoor.framem Go.Proofs.YtfinaikgikifcaaDoor.framel Go.Proofs.YtfinaikgikifcaaDoor.framea Go.Proofs.YtfinaikgikifcaaDoor.framer Go.Proofs.YtfinaikgikifcaaDoor.framen Go.Proofs.YtfinaikgikifcaaDoor.diskp Go.Proofs.YtfinaikgikifcaaDoor.diskr Go.Proofs.YtfinaikgikifcaaDoor.diskw Go.Proofs.YtfinaikgikifcaaDoor.vaultp

theorem first_any (g : Int) (hg : 0 ≤ g ∧ g ≤ 4611686018427387905) (A : Option Addr) (n c : Nat) (xs : List Int) (w : World) (hr : RdB w A n xs) (hn : n + 8 ≤ 140737488355328) (ht : Table w) :
    Calls Tryd.prog 32 #[.int .i64 g, .slice A n c] w (RetR w (firstR g xs).1 (firstR g xs).2) := by
  have HR := Lib.hid hr
  have HT := Lib.hid ht
  have hlen := hr.len
  clear hr ht
  go_enter Tryd.func32, Tryd.ntmps32
  go_wp2
  go_loopw [6, 8] (fun r i wr => ∃ (k : Nat) (A1 : Option Addr) (n1 c1 : Nat), k ≤ 8 ∧ i = .int .i64 k ∧ r = .slice A1 n1 c1 ∧ Aside0 (OwB wr w.heap.size A1 n1 c1 (leK g k)) ∧ Aside0 (Below w.heap.size w wr)) (fun _ i _ => 8 - (intOf i).toNat)
  case atStart => exact ⟨0, none, 0, 0, by omega, rfl, rfl, ⟨OwB.nil _ _⟩, ⟨Below.refl _ _⟩⟩
  case round =>
    obtain ⟨k, A1, n1, c1, hk, rfl, rfl, HO, HB⟩ := hrel
    by_cases hlt : k < 8
    · have hs := HB.out.size
      have hl1 := HO.out.len
      rw [leK_len] at hl1
      have hk1 : n1 ≤ 8 := by omega
      clear hl1
      have HL : Hid (By [byte8 g k]) := Lib.hid (By_of _ fun z hz => by simp at hz; subst hz; exact byte8_range g k)
      have HLE := Lib.hid (leK_next g k)
      have HE : Hid (byte8 g k = g / 2 ^ (8 * k) % 256) := Lib.hid rfl
      have HLR := Lib.hid (litB wr (0, 0) [byte8 g k] (Nat.le_of_ble_eq_true rfl) HL.out)
      unfold byte8 at HLR
      go_wp2_with (first | (at_builtin; refine app (w0 := w) (base := w.heap.size) rfl (.tmp 11) (.tmp 17) rfl rfl rfl (HO.out.alloc _) (HLR.out) (HB.out.alloc hs _) ?s2 ?l2 ?_; (case s2 => simp; omega); (case l2 => simp; omega); intro A2 n2 c2 w2 ho hb; have HO2 := Lib.hid ho; have HB2 := Lib.hid hb; clear ho hb) | fail)
      go_roundw
      case rel => exact ⟨k + 1, A2, n2, c2, by omega, by go_num, rfl, ⟨by rw [HLE.out, HE.out]; exact HO2.out⟩, ⟨HB2.out⟩⟩
      case measure => simp [intOf]; omega
    · obtain rfl : k = 8 := by omega
      have hs := HB.out.size
      have hl1 := HO.out.len
      rw [leK_len] at hl1
      subst hl1
      have HO8 : Hid (OwB wr w.heap.size A1 8 c1 (le8 g)) := Lib.hid HO.out
      have HL8 := Lib.hid (le8_len g)
      clear HO
      go_wp2_with (first | (at_builtin; refine app (w0 := w) (base := w.heap.size) rfl (.tmp 20) (.tmp 21) rfl rfl rfl (HO8.out) (HR.out.below HB.out) (HB.out) ?s3 ?l3 ?_; (case s3 => exact hs); (case l3 => omega); intro A3 n3 c3 w3 ho hb; have HO3 := Lib.hid ho; have HB3 := Lib.hid hb; have hl3 := ho.len; have hs3 := hb.size; have hc3 := ho.cap; clear ho hb) | fail)
      rw [List.length_append, HL8.out, hlen] at hl3
      have HE := Lib.hid (encode_any A3 n3 c3 _ w3 HO3.out.rd hc3 (HT.out.below HB3.out))
      unfold RetE at HE
      have HF : Hid ((if decide (n3 ≤ 1048576) = true then fenc (le8 g ++ xs) else []) = (firstR g xs).1 ∧ (if decide (n3 ≤ 1048576) = true then (0 : Int) else 3) = (firstR g xs).2) := Lib.hid (by
        unfold firstR firstB
        by_cases h : n3 ≤ 1048576
        · have h8 : 8 + xs.length ≤ 1048576 := by omega
          simp [h, h8]
        · have h8 : ¬ 8 + xs.length ≤ 1048576 := by omega
          simp [h, h8])
      rw [HF.out.1, HF.out.2] at HE
      generalize hys : (firstR g xs).1 = ys at HE
      generalize hrr : (firstR g xs).2 = r at HE
      have HY := Lib.hid hys
      have HRr := Lib.hid hrr
      clear hys hrr HF
      go_wp2_with fail
      refine HE.out.mono ?_
      rintro e w4 ⟨A4, n4, c4, rfl, ho4, hb4⟩
      have HO4 := Lib.hid ho4
      have HB4 := Lib.hid hb4
      clear ho4 hb4
      go_wp2
      refine bodyPost_ret (results_tmp2 rfl _ _ _) rfl ?_
      exact ⟨A4, n4, c4, by rw [HRr.out]; rfl, by rw [HY.out]; exact HO4.out.less hs3, HB3.out.trans (HB4.out.mono hs3)⟩
end Go.Proofs.YtfinaikgikifcaaDoor.vaultw
/- What the vault's steps make of a disk: plain Lean. -/
namespace Go.Proofs.YtfinaikgikifcaaDoor.vaultp
open Go.RowKit Go.Shelf Go.Proofs.YtfinaikgikifcaaDoorW.PrintWords Go.Proofs.YtfinaikgikifcaaDoor.base Go.Proofs.YtfinaikgikifcaaDoor.mem Go.Proofs.YtfinaikgikifcaaDoor.samew Go.Proofs.YtfinaikgikifcaaDoor.framep Go.Proofs.YtfinaikgikifcaaDoor.frameit Go.Proofs.YtfinaikgikifcaaDoor.framem Go.Proofs.YtfinaikgikifcaaDoor.framel Go.Proofs.YtfinaikgikifcaaDoor.framea Go.Proofs.YtfinaikgikifcaaDoor.framer Go.Proofs.YtfinaikgikifcaaDoor.framen Go.Proofs.YtfinaikgikifcaaDoor.diskp Go.Proofs.YtfinaikgikifcaaDoor.diskr Go.Proofs.YtfinaikgikifcaaDoor.diskw

def wipeR (d : D) (f size : Int) : D × Int := if size = 0 then (d, 0) else cutR d f 0
def beginR (d : D) (f : Int) (ys : List Int) : D × Int := if (appR d f ys).2 = 0 then syncR (appR d f ys).1 f else appR d f ys
def mendR (d : D) (f en size : Int) : D × Int := if en < size then (if (cutR d f en).2 = 0 then syncR (cutR d f en).1 f else cutR d f en) else syncR d f
section
variable {d : D} {S N : Nat}
theorem Ok.wipe (h : Ok d S N) (f size : Int) : Ok (wipeR d f size).1 S (N + 1) := by
  unfold wipeR
  split
  · exact h.more (Nat.le_refl _) (by omega)
  · exact h.cut f 0
theorem Ok.begin_ (h : Ok d S N) (f : Int) (ys : List Int) : Ok (beginR d f ys).1 (S + ys.length) (N + 2) := by
  unfold beginR
  split
  · exact (h.app f ys).sync f
  · exact (h.app f ys).more (Nat.le_refl _) (by omega)
theorem Ok.mend (h : Ok d S N) (f en size : Int) : Ok (mendR d f en size).1 S (N + 2) := by
  unfold mendR
  split
  · split
    · exact (h.cut f en).sync f
    · exact (h.cut f en).more (Nat.le_refl _) (by omega)
  · exact (h.sync f).more (Nat.le_refl _) (by omega)
end
end Go.Proofs.YtfinaikgikifcaaDoor.vaultp
/- What the vault's steps on a disk compute. -/
namespace Go.Proofs.YtfinaikgikifcaaDoor.vaultw
open Go.RowKit Go.Shelf Go.Proofs.YtfinaikgikifcaaDoorW.PrintWords Go.Proofs.YtfinaikgikifcaaDoor.base Go.Proofs.YtfinaikgikifcaaDoor.mem Go.Proofs.YtfinaikgikifcaaDoor.keep Go.Proofs.YtfinaikgikifcaaDoor.diskp Go.Proofs.YtfinaikgikifcaaDoor.diskr Go.Proofs.YtfinaikgikifcaaDoor.diskw Go.Proofs.YtfinaikgikifcaaDoor.vaultp

/-- a vault in memory -/
structure VB (w : World) (q p : Nat) (f g n s : Int) : Prop where
  box : w.heap[q]? = some (.cells #[.pointer (some ⟨p, 0, none⟩), .int .i64 f, .int .i64 g, .int .i64 n, .int .i64 s] 71 (0, 0))
section
variable {w w1 : World} {q p : Nat} {f g n s : Int}
theorem VB.lt (h : VB w q p f g n s) : q < w.heap.size := (Array.getElem?_eq_some_iff.1 h.box).1
theorem VB.block (h : VB w q p f g n s) (hb : w1.heap[q]? = w.heap[q]?) : VB w1 q p f g n s := ⟨hb.trans h.box⟩
theorem VB.below (h : VB w q p f g n s) (hb : Below w.heap.size w w1) : VB w1 q p f g n s := h.block (hb.block q h.lt)
theorem VB.kept {Q : Nat → Prop} (h : VB w q p f g n s) (hk : Kp Q w w1) (hq : Q q) : VB w1 q p f g n s := h.block (hk.2 q hq h.lt)
theorem VB.cells (h : VB w q p f g n s) : w.cell? ⟨q, 0, none⟩ = some (.pointer (some ⟨p, 0, none⟩)) ∧ w.cell? ⟨q, 1, none⟩ = some (.int .i64 f) ∧ w.cell? ⟨q, 2, none⟩ = some (.int .i64 g) ∧ w.cell? ⟨q, 3, none⟩ = some (.int .i64 n) ∧ w.cell? ⟨q, 4, none⟩ = some (.int .i64 s) := by
  unfold World.cell?
  simp [h.box]
theorem VB.free (h : VB w q p f g n s) (i : Nat) : w.frozen? ⟨q, i, none⟩ = false := by
  unfold World.frozen?
  simp [h.box]
end
variable {w : World} {base p : Nat} {cs : Nat → Sl} {d : D} {S N : Nat}
theorem wipe_any (h : DAt w base p cs d) (hd : Fit d) (f size : Int) :
    Calls Tryd.prog 34 #[.pointer (some ⟨p, 0, none⟩), .int .i64 f, .int .i64 size] w (RetD w base p cs (.int .i64 (wipeR d f size).2) (wipeR d f size).1) := by
  have HC := Lib.hid (trunc_any h hd f 0 (by omega))
  have H := Lib.hid h
  by_cases h0 : size = 0
  · have HE : Hid (wipeR d f size = (d, 0)) := Lib.hid (if_pos h0)
    subst h0
    clear h hd
    go_enter Tryd.func34, Tryd.ntmps34
    go_wp2
    go_ret
    rw [HE.out]
    exact ⟨rfl, cs, H.out, DStep.refl _ _ _ _⟩
  · have HE : Hid (wipeR d f size = cutR d f 0) := Lib.hid (if_neg h0)
    have hb : (size == 0) = false := beq_eq_false_iff_ne.2 h0
    clear h hd h0
    go_enter Tryd.func34, Tryd.ntmps34
    go_wp2_with fail
    refine HC.out.mono ?_
    rintro e w3 ⟨rfl, hp⟩
    have HP := Lib.hid hp
    clear hp
    go_wp2
    go_ret
    rw [HE.out]
    exact ⟨rfl, HP.out⟩
theorem begin_any (h : DAt w base p cs d) (hk : Ok d S N) (f : Int) (A : Option Addr) (m c : Nat) (ys : List Int) (hr : RdB w A m ys) (hS : S + m ≤ 70368744177664) (hN : N + 2 ≤ 4611686018427387904) :
    Calls Tryd.prog 35 #[.pointer (some ⟨p, 0, none⟩), .int .i64 f, .slice A m c] w (RetD w base p cs (.int .i64 (beginR d f ys).2) (beginR d f ys).1) := by
  have HA := Lib.hid (append_any h (hk.fit (by omega) (by omega)) f A m c ys hr (fun i hi => by have := hk.len i hi; omega))
  have HK := Lib.hid ((hk.app f ys).fit (by rw [hr.len]; omega) (by omega))
  by_cases h0 : (appR d f ys).2 = 0
  · have HE : Hid (beginR d f ys = syncR (appR d f ys).1 f) := Lib.hid (if_pos h0)
    rw [h0] at HA
    clear h hk hr h0
    generalize (appR d f ys).1 = d1 at HA HK HE
    go_enter Tryd.func35, Tryd.ntmps35
    go_wp2_with fail
    refine HA.out.mono ?_
    rintro e w3 ⟨rfl, cs3, h3, s3⟩
    have HS := Lib.hid (sync_any h3 HK.out f)
    have S3 := Lib.hid s3
    clear h3 s3
    go_wp2_with fail
    refine HS.out.mono ?_
    rintro e w4 hret
    have HRt := Lib.hid (RetD.from S3.out hret)
    obtain ⟨rfl, _⟩ := hret
    go_wp2
    go_ret
    rw [HE.out]
    exact HRt.out
  · have HE : Hid (beginR d f ys = appR d f ys) := Lib.hid (if_neg h0)
    have hb : ((appR d f ys).2 == 0) = false := beq_eq_false_iff_ne.2 h0
    have hb2 : ((appR d f ys).2 != 0) = true := by simp [h0]
    clear h hk hr h0
    generalize appR d f ys = r at *
    go_enter Tryd.func35, Tryd.ntmps35
    go_wp2_with fail
    refine HA.out.mono ?_
    rintro e w3 ⟨rfl, hp⟩
    have HP := Lib.hid hp
    clear hp
    go_wp2
    go_ret
    rw [HE.out]
    exact ⟨rfl, HP.out⟩
end Go.Proofs.YtfinaikgikifcaaDoor.vaultw
/- mend, and the vault's small methods. -/
namespace Go.Proofs.YtfinaikgikifcaaDoor.vaultw
open Go.RowKit Go.Shelf Go.Proofs.YtfinaikgikifcaaDoorW.PrintWords Go.Proofs.YtfinaikgikifcaaDoor.base Go.Proofs.YtfinaikgikifcaaDoor.mem Go.Proofs.YtfinaikgikifcaaDoor.keep Go.Proofs.YtfinaikgikifcaaDoor.diskp Go.Proofs.YtfinaikgikifcaaDoor.diskr Go.Proofs.YtfinaikgikifcaaDoor.diskw Go.Proofs.YtfinaikgikifcaaDoor.vaultp

variable {w : World} {base p q : Nat} {cs : Nat → Sl} {d : D} {S N : Nat} {f g n s : Int}
theorem ill_any (h : VB w q p f g n s) (e : Int) : Calls Tryd.prog 38 #[.pointer (some ⟨q, 0, none⟩), .int .i64 e] w fun r w' => r = .returned (.int .i64 e) ∧ w' = w.setCell ⟨q, 4, none⟩ (.int .i64 e) := by
  have e4 := h.cells.2.2.2.2
  have f4 := h.free 4
  clear h
  go_enter Tryd.func38, Tryd.ntmps38
  go_wp2
  go_ret
  exact ⟨rfl, rfl⟩
theorem count_any (h : VB w q p f g n s) : Calls Tryd.prog 16 #[.pointer (some ⟨q, 0, none⟩)] w fun r w' => r = .returned (.int .i64 n) ∧ w = w' := by
  have e3 := h.cells.2.2.2.1
  clear h
  go_enter Tryd.func16, Tryd.ntmps16
  go_wp2
  go_ret
  exact ⟨rfl, rfl⟩
theorem generation_any (h : VB w q p f g n s) : Calls Tryd.prog 15 #[.pointer (some ⟨q, 0, none⟩)] w fun r w' => r = .returned (.int .i64 g) ∧ w = w' := by
  have e3 := h.cells.2.2.1
  clear h
  go_enter Tryd.func15, Tryd.ntmps15
  go_wp2
  go_ret
  exact ⟨rfl, rfl⟩
theorem count_nil (w : World) : Calls Tryd.prog 16 #[.pointer none] w fun r w' => r = .returned (.int .i64 0) ∧ w = w' := by
  go_enter Tryd.func16, Tryd.ntmps16
  go_wp2
  go_ret
  exact ⟨rfl, rfl⟩
theorem generation_nil (w : World) : Calls Tryd.prog 15 #[.pointer none] w fun r w' => r = .returned (.int .i64 0) ∧ w = w' := by
  go_enter Tryd.func15, Tryd.ntmps15
  go_wp2
  go_ret
  exact ⟨rfl, rfl⟩
theorem append_nil (w : World) (v : Value) : Calls Tryd.prog 18 #[.pointer none, v] w fun r w' => r = .returned (.int .i64 2) ∧ w = w' := by
  go_enter Tryd.func18, Tryd.ntmps18
  go_wp2
  go_ret
  exact ⟨rfl, rfl⟩
theorem checkpoint_nil (w : World) (v : Value) : Calls Tryd.prog 19 #[.pointer none, v] w fun r w' => r = .returned (.int .i64 2) ∧ w = w' := by
  go_enter Tryd.func19, Tryd.ntmps19
  go_wp2
  go_ret
  exact ⟨rfl, rfl⟩
def keptV (g : Int) (A : Option Addr) (n c : Nat) (B : Option Addr) (m e : Nat) (size en : Int) : Value := .agg #[.int .i64 g, .slice A n c, .slice B m e, .int .i64 size, .int .i64 en]
set_option maxHeartbeats 1000000 in
set_option maxRecDepth 100000 in
theorem mend_any (h : DAt w base p cs d) (hk : Ok d S N) (hS : S ≤ 70368744177664) (hN : N + 2 ≤ 4611686018427387904) (hq : VB w q p f g n s) (hnq : ¬ Ft p cs q) (k0 : Int) (A : Option Addr) (a b : Nat) (B : Option Addr) (a' b' : Nat) (size en : Int) (hen : 0 ≤ en ∧ en ≤ 9223372036854775807) (hz : 0 ≤ size ∧ size ≤ 9223372036854775807) :
    Calls Tryd.prog 36 #[.pointer (some ⟨q, 0, none⟩), keptV k0 A a b B a' b' size en] w (RetD w base p cs (.int .i64 (mendR d f en size).2) (mendR d f en size).1) := by
  have hbs := h.base_le
  have B1 := Lib.hid (below_alloc (Below.refl w.heap.size w) (.cells #[.int .i64 k0, .slice A a b, .slice B a' b', .int .i64 size, .int .i64 en] 66))
  have e3 : (w.alloc (.cells #[.int .i64 k0, .slice A a b, .slice B a' b', .int .i64 size, .int .i64 en] 66)).cell? ⟨w.heap.size, 3, none⟩ = some (.int .i64 size) := by simp
  have e4 : (w.alloc (.cells #[.int .i64 k0, .slice A a b, .slice B a' b', .int .i64 size, .int .i64 en] 66)).cell? ⟨w.heap.size, 4, none⟩ = some (.int .i64 en) := by simp
  have H1 := Lib.hid (h.below B1.out)
  have S1 := Lib.hid (DStep.below (p := p) (cs := cs) B1.out hbs)
  have HQ := Lib.hid (hq.below B1.out)
  have HK := Lib.hid hk
  obtain ⟨c0, c1, _⟩ := HQ.out.cells
  clear h hk hq
  unfold keptV
  have D1 : Hid (∀ W : World, Below W.heap.size W W.drew) := Lib.hid fun W => (Below.refl _ W).drew
  by_cases hlt : en < size
  · have HE : Hid (mendR d f en size = if (cutR d f en).2 = 0 then syncR (cutR d f en).1 f else cutR d f en) := Lib.hid (if_pos hlt)
    go_enter Tryd.func36, Tryd.ntmps36
    go_wp2_with fail
    generalize hw1 : w.alloc (.cells #[.int .i64 k0, .slice A a b, .slice B a' b', .int .i64 size, .int .i64 en] 66) = w1 at *
    clear hw1 e3
    go_still_tail 10, (by kernel_rfl)
    have HC := Lib.hid (trunc_any H1.out.drewd (HK.out.fit hS (by omega)) f en (by omega))
    have S2 := Lib.hid (S1.out.drewd)
    have HQ2 := Lib.hid (HQ.out.below (D1.out w1))
    have HKC := Lib.hid (HK.out.cut f en)
    change wpList _ _ _ _ _ w1.drew
    generalize w1.drew = w2 at *
    clear e4 c0 c1
    by_cases h0 : (cutR d f en).2 = 0
    · have HE := Lib.hid (HE.out.trans (if_pos h0))
      rw [h0] at HC
      clear h0
      generalize (cutR d f en).1 = d1 at HC HE HKC
      go_wp2_with fail
      refine HC.out.mono ?_
      rintro e w3 ⟨rfl, cs3, h3, s3⟩
      have HS := Lib.hid (sync_any h3.drewd ((HKC.out.fit hS (by omega))) f)
      have S3 := Lib.hid (S2.out.trans s3).drewd
      have HQ3 := Lib.hid (HQ2.out.kept s3.keep hnq)
      obtain ⟨c0, c1, _⟩ := HQ3.out.cells
      clear h3 s3
      go_wp2_with fail
      go_still_tail 8, (by kernel_rfl)
      change wpList _ _ _ _ _ w3.drew
      generalize w3.drew = w4 at HS S3 ⊢
      clear c0 c1
      go_wp2_with fail
      refine HS.out.mono ?_
      rintro e w5 hret
      have HRt := Lib.hid (RetD.from S3.out hret)
      obtain ⟨rfl, _⟩ := hret
      go_wp2
      go_ret
      rw [HE.out]
      exact HRt.out
    · have HE := Lib.hid (HE.out.trans (if_neg h0))
      have hb2 : ((cutR d f en).2 == 0) = false := beq_eq_false_iff_ne.2 h0
      have hb3 : ((cutR d f en).2 != 0) = true := by simp [h0]
      clear h0
      generalize cutR d f en = r at *
      go_wp2_with fail
      refine HC.out.mono ?_
      rintro e w3 hret
      have HRt := Lib.hid (RetD.from S2.out hret)
      obtain ⟨rfl, _⟩ := hret
      go_wp2
      go_ret
      rw [HE.out]
      exact HRt.out
  · have HE : Hid (mendR d f en size = syncR d f) := Lib.hid (if_neg hlt)
    have HS := Lib.hid (sync_any H1.out.drewd (HK.out.fit hS (by omega)) f)
    have S3 := Lib.hid S1.out.drewd
    go_enter Tryd.func36, Tryd.ntmps36
    go_wp2_with fail
    generalize hw1 : w.alloc (.cells #[.int .i64 k0, .slice A a b, .slice B a' b', .int .i64 size, .int .i64 en] 66) = w1 at *
    clear hw1 e3 e4
    go_still_tail 8, (by kernel_rfl)
    change wpList _ _ _ _ _ w1.drew
    generalize w1.drew = w4 at HS S3 ⊢
    clear c0 c1
    go_wp2_with fail
    refine HS.out.mono ?_
    rintro e w5 hret
    have HRt := Lib.hid (RetD.from S3.out hret)
    obtain ⟨rfl, _⟩ := hret
    go_wp2
    go_ret
    rw [HE.out]
    exact HRt.out
end Go.Proofs.YtfinaikgikifcaaDoor.vaultw
/- What a vault finds in a file: plain Lean. -/
namespace Go.Proofs.YtfinaikgikifcaaDoor.vaultp
open Go.RowKit Go.Shelf Go.Proofs.YtfinaikgikifcaaDoorW.PrintWords Go.Proofs.YtfinaikgikifcaaDoor.base Go.Proofs.YtfinaikgikifcaaDoor.mem Go.Proofs.YtfinaikgikifcaaDoor.samew Go.Proofs.YtfinaikgikifcaaDoor.framep Go.Proofs.YtfinaikgikifcaaDoor.frameit Go.Proofs.YtfinaikgikifcaaDoor.framem Go.Proofs.YtfinaikgikifcaaDoor.framel Go.Proofs.YtfinaikgikifcaaDoor.framea Go.Proofs.YtfinaikgikifcaaDoor.framer Go.Proofs.YtfinaikgikifcaaDoor.framen Go.Proofs.YtfinaikgikifcaaDoor.diskp Go.Proofs.YtfinaikgikifcaaDoor.diskr Go.Proofs.YtfinaikgikifcaaDoor.diskw

/-- the number of the first k bytes, the lowest first -/
def leP (xs : List Int) : Nat → Int
  | 0 => 0
  | k + 1 => leP xs k + 256 ^ k * xs.getD k 0
def leN (xs : List Int) : Int := leP xs 8
theorem leP_range {xs : List Int} (h : By xs) : ∀ k, 0 ≤ leP xs k ∧ leP xs k < 256 ^ k
  | 0 => ⟨by simp [leP], by simp [leP]⟩
  | k + 1 => by
    obtain ⟨h0, h1⟩ := leP_range h k
    obtain ⟨b0, b1⟩ := By.getD h k
    have hpos : (0 : Int) < 256 ^ k := Int.pow_pos (by decide)
    have e0 : 0 ≤ 256 ^ k * xs.getD k 0 := Int.mul_nonneg (Int.le_of_lt hpos) b0
    have e1 : 256 ^ k * xs.getD k 0 ≤ 256 ^ k * 255 := Int.mul_le_mul_of_nonneg_left b1 (Int.le_of_lt hpos)
    rw [Int.pow_succ]
    unfold leP
    omega
theorem or_sh (x b : Int) (i : Nat) (hi : i < 8) (hx0 : 0 ≤ x) (hx : x < 256 ^ i) (hb0 : 0 ≤ b) (hb : b ≤ 255) :
    Go.bits .or .u64 x (IntKind.u64.wrap (b * 2 ^ (8 * i))) = x + 256 ^ i * b := by
  have wr : ∀ n : Int, 0 ≤ n → n < 2 ^ 64 → IntKind.u64.wrap n = n := fun n h0 h1 => by rw [IntKind.wrap_u64]; omega
  have ep : (256 : Int) ^ i = 2 ^ (8 * i) := by rw [show (256 : Int) = 2 ^ 8 from rfl, ← Int.pow_mul]
  have hp : (2 : Int) ^ (8 * i) ≤ 2 ^ 56 := by
    have := Nat.pow_le_pow_right (n := 2) (by decide) (show 8 * i ≤ 56 by omega)
    exact_mod_cast this
  have hpos : (0 : Int) < 2 ^ (8 * i) := Int.pow_pos (by decide)
  have hy0 : 0 ≤ b * 2 ^ (8 * i) := Int.mul_nonneg hb0 (Int.le_of_lt hpos)
  have hy1 : b * 2 ^ (8 * i) ≤ 255 * 2 ^ 56 := Int.mul_le_mul hb hp (Int.le_of_lt hpos) (by decide)
  rw [wr _ hy0 (by omega), Int.mul_comm (256 ^ i) b, ep]
  have hx2 : x < 2 ^ (8 * i) := by rw [← ep]; exact hx
  have key := bits_join .u64 64 (by decide) wr (8 * i) (b * 2 ^ (8 * i)) x hy0 (by exact Int.mul_emod_left _ _) (by omega) hx0 hx2 (by omega)
  have comm : Go.bits .or .u64 x (b * 2 ^ (8 * i)) = Go.bits .or .u64 (b * 2 ^ (8 * i)) x := by
    unfold Go.bits
    simp only [BitVec.or_comm]
  rw [comm, key, Int.add_comm]
/-- a first frame's payload counts -/
def goodP (p : List Int) : Prop := 8 ≤ p.length ∧ 1 ≤ leN p ∧ leN p ≤ 4611686018427387904
instance (p : List Int) : Decidable (goodP p) := inferInstanceAs (Decidable (_ ∧ _))
/-- generation, snapshot, records of these payloads -/
def lookP : List (List Int) → Int × List Int × List (List Int)
  | [] => (0, [], [])
  | p :: r => if goodP p then (leN p, p.drop 8, r) else (0, [], [])
theorem lookP_good {p : List Int} (r : List (List Int)) (h : goodP p) : lookP (p :: r) = (leN p, p.drop 8, r) := if_pos h
theorem lookP_bad {p : List Int} (r : List (List Int)) (h : ¬ goodP p) : lookP (p :: r) = (0, [], []) := if_neg h
def lookF (xs : List Int) : Int × List Int × List (List Int) := lookP (P xs)
theorem lookP_range {ps : List (List Int)} : 0 ≤ (lookP ps).1 ∧ (lookP ps).1 ≤ 4611686018427387904 := by
  cases ps with
  | nil => exact ⟨by simp [lookP], by simp [lookP]⟩
  | cons p r =>
    by_cases h : goodP p
    · rw [lookP_good r h]; exact ⟨by have := h.2.1; dsimp only; omega, h.2.2⟩
    · rw [lookP_bad r h]; exact ⟨by simp, by simp⟩
end Go.Proofs.YtfinaikgikifcaaDoor.vaultp
/- What stays of one's own slices of bytes while some of them are turned. -/
namespace Go.Proofs.YtfinaikgikifcaaDoor.framek
open Go.RowKit Go.Shelf Go.Proofs.YtfinaikgikifcaaDoorW.PrintWords Go.Proofs.YtfinaikgikifcaaDoor.base Go.Proofs.YtfinaikgikifcaaDoor.mem Go.Proofs.YtfinaikgikifcaaDoor.samew Go.Proofs.YtfinaikgikifcaaDoor.keep Go.Proofs.YtfinaikgikifcaaDoor.framea

theorem OwV.keptB {w w' : World} {base n c : Nat} {A : Option Addr} {cells : List Value} (h : OwV w base A n c cells) {b m c' : Nat} {a : Option Addr} {ys : List Int} (hb : OwB w b a m c' ys) {row : Option Nat} (hg : w.grownBy w' row) (hr : ∀ g, row = some g → (Value.slice a m c').ownBlock = some g) : OwV w' base A n c cells := by
  refine World.ownsRow.kept h hg ?_
  rcases h.2 with ⟨hv, _⟩ | ⟨g, cap, cur, hv, _, hb', _, _, _⟩
  · rw [hv]; exact .inl rfl
  · rw [hv]
    refine .inr fun e => ?_
    have hr' := hr g e.symm
    rcases hb.1.2 with ⟨hv2, _⟩ | ⟨g', cap', cur', hv2, _, hb2, _⟩
    · rw [hv2] at hr'; cases hr'
    · rw [hv2] at hr'
      cases hr'
      rw [hb'] at hb2
      injection hb2 with hb2
      injection hb2 with _ e2 _
      revert e2
      decide
theorem OwV.at_ {w : World} {base n c g : Nat} {cells : List Value} (h : OwV w base (some ⟨g, 0, none⟩) n c cells) (i : Nat) {v : Value} (hv : cells[i]? = some v) : w.cell? ⟨g, i, none⟩ = some v ∧ w.frozen? ⟨g, i, none⟩ = false :=
  ⟨by have := World.ownsRow.cells h (g := g) rfl i _ hv; rwa [add_plain] at this, World.ownsRow.frozenAt h i⟩
theorem OwV.store {w : World} {base n c g : Nat} {cells : List Value} (h : OwV w base (some ⟨g, 0, none⟩) n c cells) (i : Nat) (v : Value) : OwV (w.setCell ⟨g, i, none⟩ v) base (some ⟨g, 0, none⟩) n c (cells.set i v) := (World.ownsRow.stored h i v).1
theorem OwV.blk {w : World} {base n c : Nat} {A : Option Addr} {cells : List Value} (h : OwV w base A n c cells) : ∀ j, (Value.slice A n c).ownBlock = some j → base ≤ j ∧ j < w.heap.size := by
  intro j hj
  rcases h.2 with ⟨hv, _⟩ | ⟨g, cap, cur, hv, hb, hh, _⟩
  · rw [hv] at hj; cases hj
  · rw [hv] at hj; cases hj
    exact ⟨hb, (Array.getElem?_eq_some_iff.1 hh).1⟩
theorem OwV.form {w : World} {base n c : Nat} {A : Option Addr} {cells : List Value} (h : OwV w base A n c cells) (hn : 0 < n) : ∃ g, A = some ⟨g, 0, none⟩ := by
  obtain ⟨g, cap, hv, _, _⟩ := World.ownsRow.form h hn
  injection hv with h1
  exact ⟨g, h1⟩
/-- no two of the rows in one block -/
def Apart (cells : List Value) : Prop := ∀ (i j g : Nat) (a : Option Addr) (m c : Nat) (a' : Option Addr) (m' c' : Nat), cells[i]? = some (Value.slice a m c) → cells[j]? = some (Value.slice a' m' c') → (Value.slice a m c).ownBlock = some g → (Value.slice a' m' c').ownBlock = some g → i = j
/-- the rows from k on stand as they were -/
structure RK (W : World) (base k : Nat) (cells cells3 : List Value) (xss : List (List Int)) : Prop where
  same : ∀ i, k ≤ i → cells[i]? = cells3[i]?
  own : ∀ i, k ≤ i → i < xss.length → ∃ a m c, cells3[i]? = some (.slice a m c) ∧ OwB W base a m c (xss.getD i [])
section
variable {W W' : World} {base k : Nat} {cells cells3 : List Value} {xss : List (List Int)}
theorem RK.of (h : Rws W base cells xss) : RK W base 0 cells cells xss := ⟨fun _ _ => rfl, fun i _ hi => h.at_ i hi⟩
theorem RK.map (h : RK W base k cells cells3 xss) (hw : ∀ a m c ys, OwB W base a m c ys → OwB W' base a m c ys) : RK W' base k cells cells3 xss :=
  ⟨h.same, fun i h1 h2 => by obtain ⟨a, m, c, e, ho⟩ := h.own i h1 h2; exact ⟨a, m, c, e, hw _ _ _ _ ho⟩⟩
theorem RK.below (h : RK W base k cells cells3 xss) (hb : Below W.heap.size W W') : RK W' base k cells cells3 xss := h.map fun _ _ _ _ ho => ho.below hb
theorem RK.next (h : RK W base k cells cells3 xss) : RK W base (k + 1) cells cells3 xss := ⟨fun i hi => h.same i (by omega), fun i hi => h.own i (by omega)⟩
theorem RK.put (h : RK W base (k + 1) cells cells3 xss) (v : Value) : RK W base (k + 1) (cells.set k v) cells3 xss :=
  ⟨fun i hi => by rw [List.getElem?_set_ne (by omega)]; exact h.same i hi, h.own⟩
theorem RK.grown (h : RK W base (k + 1) cells cells3 xss) (hap : Apart cells3) {a : Option Addr} {m c : Nat} (he : cells3[k]? = some (.slice a m c)) {row : Option Nat} (hg : W.grownBy W' row) (hr : ∀ g, row = some g → (Value.slice a m c).ownBlock = some g) : RK W' base (k + 1) cells cells3 xss :=
  ⟨h.same, fun i h1 h2 => by
    obtain ⟨a', m', c', e, ho⟩ := h.own i h1 h2
    refine ⟨a', m', c', e, OwB.keptN ho hg fun j hj hrow => ?_⟩
    have := hap k i j _ _ _ _ _ _ he e (hr j hrow) hj
    omega⟩
theorem RK.set (h : RK W base (k + 1) cells cells3 xss) (hap : Apart cells3) {g m c : Nat} (he : cells3[k]? = some (.slice (some ⟨g, 0, none⟩) m c)) (i : Nat) (v : Value) : RK (W.setCell ⟨g, i, none⟩ v) base (k + 1) cells cells3 xss :=
  h.grown hap he (grownBy_set W g i v) fun g' e => by cases e; rfl
theorem RK.head {b n c g : Nat} {cs : List Value} (h : RK W base k cells cells3 xss) (ho : OwV W b (some ⟨g, 0, none⟩) n c cs) (i : Nat) (v : Value) : RK (W.setCell ⟨g, i, none⟩ v) base k cells cells3 xss :=
  h.map fun a m c ys hb => OwB.keptT hb (grownBy_set W g i v) fun r e => by cases e; exact OwV.row ho g rfl
end
theorem OwB.head {W : World} {base b n c g : Nat} {A : Option Addr} {m c' : Nat} {ys : List Int} {cs : List Value} (h : OwB W base A m c' ys) (ho : OwV W b (some ⟨g, 0, none⟩) n c cs) (i : Nat) (v : Value) : OwB (W.setCell ⟨g, i, none⟩ v) base A m c' ys :=
  OwB.keptT h (grownBy_set W g i v) fun r e => by cases e; exact OwV.row ho g rfl
end Go.Proofs.YtfinaikgikifcaaDoor.framek
