/- The two readers: what their calls compute and do to their one block. -/
import Derived.Test.YtlbhmbbmpmhcjaaPackWalk3
import Derived.Test.YtlbhmbbmpmhcjaaPackPure2
set_option linter.unusedVariables false
set_option linter.unusedSimpArgs false
namespace Go.Proofs.Ytlbhmbbmpmhcjaa.rdr
open Go.RowKit Go.Proofs.YtlbhmbbmpmhcjaaW.PrintWords Go.Proofs.Ytlbhmbbmpmhcjaa.base Go.Proofs.Ytlbhmbbmpmhcjaa.mem Go.Proofs.Ytlbhmbbmpmhcjaa.packp Go.Proofs.Ytlbhmbbmpmhcjaa.packw Go.Proofs.Ytlbhmbbmpmhcjaa.samew

/-- bytes that are read, in a block of bytes -/
def RdT (w : World) (A : Option Addr) (n : Nat) (xs : List Int) : Prop := RdB w A n xs ∧ (0 < n → ∀ ad, A = some ad → ∃ cur fr, w.heap[ad.block]? = some (.cells cur 5 fr))
theorem RdT.turned {w w' : World} {A : Option Addr} {n r : Nat} {xs : List Int} {cr : Array Value} {T : TypeId} {fr : Nat × Nat} (h : RdT w A n xs) (hg : w.grownBy w' (some r)) (hr : w.heap[r]? = some (.cells cr T fr)) (hT : T ≠ 5) : RdT w' A n xs := by
  have hb : ∀ ad, 0 < n → A = some ad → w'.heap[ad.block]? = w.heap[ad.block]? := by
    intro ad hn ha
    obtain ⟨cur, fr', hc⟩ := h.2 hn ad ha
    refine hg.block _ (Array.getElem?_eq_some_iff.1 hc).1 (fun e => ?_)
    have e : ad.block = r := by simpa using e
    rw [e, hr] at hc
    injection hc with hc
    injection hc with _ h2
    exact hT h2
  refine ⟨⟨⟨h.1.len, h.1.max, fun hn => ?_⟩, h.1.2⟩, fun hn ad ha => by rw [hb ad hn ha]; exact h.2 hn ad ha⟩
  obtain ⟨ad, ha, hc⟩ := h.1.1.2.2 hn
  refine ⟨ad, ha, fun j hj => ?_⟩
  rw [← hc j hj]
  have hbl : (ad.add j).block = ad.block := by unfold Addr.add; split <;> rfl
  exact World.cell?_of_block (w := w) (by rw [hbl]; exact hb ad hn ha)
theorem OwB.rdT {w : World} {base n c : Nat} {A : Option Addr} {xs : List Int} (h : OwB w base A n c xs) : RdT w A n xs := by
  refine ⟨h.rd, fun hn ad ha => ?_⟩
  obtain ⟨_, h2⟩ := h.1
  rcases h2 with ⟨h3, _⟩ | ⟨g, cap, cur, hv, _, hh, _⟩
  · injection h3 with h3; rw [ha] at h3; cases h3
  · injection hv with h3
    rw [ha] at h3
    injection h3 with h3
    subst h3
    exact ⟨cur, (0, 0), hh⟩
theorem RdT.drop {w : World} {A : Option Addr} {n c : Nat} {xs : List Int} (h : RdT w A n xs) (i : Nat) (hi : i ≤ n) (hc : n ≤ c) : RdT w (if c = i then A else A.map (·.add i)) (n - i) (xs.drop i) := by
  refine ⟨h.1.drop i hi hc, fun hn ad ha => ?_⟩
  split at ha
  · exact h.2 (by omega) ad ha
  · cases A with
    | none => cases ha
    | some a0 =>
      obtain ⟨cur, fr, hh⟩ := h.2 (by omega) a0 rfl
      simp only [Option.map_some, Option.some.injEq] at ha
      subst ha
      have hbl : (a0.add i).block = a0.block := by unfold Addr.add; split <;> rfl
      exact ⟨cur, fr, by rw [hbl]; exact hh⟩
theorem RdT.below {w w' : World} {A : Option Addr} {n : Nat} {xs : List Int} (h : RdT w A n xs) (hb : Below w.heap.size w w') : RdT w' A n xs :=
  ⟨h.1.below hb, fun hn ad ha => by
    obtain ⟨cur, fr, hh⟩ := h.2 hn ad ha
    exact ⟨cur, fr, by rw [hb.block _ (Array.getElem?_eq_some_iff.1 hh).1]; exact hh⟩⟩
/-- a reader in block r -/
def Rdr (T : TypeId) (w : World) (r : Nat) (bad : Bool) (xs : List Int) : Prop := ∃ A n c, w.heap[r]? = some (.cells #[.slice A n c, .bool bad] T (0, 0)) ∧ n ≤ c ∧ n ≤ 140737488355328 ∧ RdT w A n xs
theorem Rdr.below {T : TypeId} {w w' : World} {r : Nat} {bad : Bool} {xs : List Int} (h : Rdr T w r bad xs) (hb : Below w.heap.size w w') : Rdr T w' r bad xs := by
  obtain ⟨A, n, c, h1, h2, h3, h4⟩ := h
  exact ⟨A, n, c, by rw [hb.block _ (Array.getElem?_eq_some_iff.1 h1).1]; exact h1, h2, h3, h4.below hb⟩
theorem Rdr.other {T T' : TypeId} {w w' : World} {r r' : Nat} {bad bad' : Bool} {xs xs' : List Int} (h : Rdr T w r bad xs) (h' : Rdr T' w r' bad' xs') (hne : r ≠ r') (hT : T' ≠ 5) (hg : w.grownBy w' (some r')) : Rdr T w' r bad xs := by
  obtain ⟨A, n, c, h1, h2, h3, h4⟩ := h
  obtain ⟨A', n', c', h1', _⟩ := h'
  exact ⟨A, n, c, by rw [hg.block _ (Array.getElem?_eq_some_iff.1 h1).1 (by simpa using hne)]; exact h1, h2, h3, h4.turned hg h1' hT⟩
theorem Rdr.lt {T : TypeId} {w : World} {r : Nat} {bad : Bool} {xs : List Int} (h : Rdr T w r bad xs) : r < w.heap.size := by
  obtain ⟨A, n, c, h1, _⟩ := h
  exact (Array.getElem?_eq_some_iff.1 h1).1
theorem cells2 {w : World} {r : Nat} {a b : Value} {T : TypeId} (h : w.heap[r]? = some (.cells #[a, b] T (0, 0))) : w.cell? ⟨r, 0, none⟩ = some a ∧ w.cell? ⟨r, 1, none⟩ = some b ∧ w.frozen? ⟨r, 0, none⟩ = false ∧ w.frozen? ⟨r, 1, none⟩ = false := by
  refine ⟨?_, ?_, ?_, ?_⟩ <;> simp [World.cell?, World.frozen?, h]
theorem set0 {w : World} {r : Nat} {a b v : Value} {T : TypeId} (h : w.heap[r]? = some (.cells #[a, b] T (0, 0))) : (w.setCell ⟨r, 0, none⟩ v).heap[r]? = some (.cells #[v, b] T (0, 0)) := by
  simp [World.setCell, h, Array.getElem?_modify]
theorem set1 {w : World} {r : Nat} {a b v : Value} {T : TypeId} (h : w.heap[r]? = some (.cells #[a, b] T (0, 0))) : (w.setCell ⟨r, 1, none⟩ v).heap[r]? = some (.cells #[a, v] T (0, 0)) := by
  simp [World.setCell, h, Array.getElem?_modify]

/-! ### what the calls compute -/
structure St where
  bad : Bool
  xs : List Int
def number (s : St) : Int × St := if s.bad then (0, s) else ((dec 0 s.xs).1, ⟨(dec 0 s.xs).2 == 0, s.xs.drop (dec 0 s.xs).2⟩)
def bytes (s : St) (n : Int) : List Int × St := if s.bad then ([], s) else if n < 0 ∨ (s.xs.length : Int) < n then ([], ⟨true, s.xs⟩) else (s.xs.take n.toNat, ⟨false, s.xs.drop n.toNat⟩)
def left (s : St) : Nat := if s.bad then 0 else s.xs.length

theorem left_any (r : Nat) (s : St) (w : World) (h : Rdr 54 w r s.bad s.xs) :
    Calls Try.prog 26 #[.pointer (some ⟨r, 0, none⟩)] w fun e w' => e = .returned (.int .i64 (left s : Nat)) ∧ w = w' := by
  obtain ⟨bad, xs⟩ := s
  obtain ⟨A, n, c, h1, h2, h3, h4⟩ := h
  obtain ⟨c0, c1, f0, f1⟩ := cells2 h1
  have hl := Lib.hid h4.1.len
  clear h1 h4
  cases bad
  · go_enter Try.func26, Try.ntmps26
    go_wp2
    go_ret
    exact ⟨by unfold left; rw [← hl.out]; rfl, rfl⟩
  · go_enter Try.func26, Try.ntmps26
    go_wp2
    go_ret
    exact ⟨rfl, rfl⟩

theorem cutT (A : Option Addr) (n c m : Nat) (hm : m ≤ n) (hc : n ≤ c) :
    ∃ A' n' c', (∀ W : World, (Instr.slice 22 (.slice A n c) (some (.int .i64 (m : Int))) none none).run Try.prog W = .ok (.slice A' n' c') W) ∧ n' + m ≤ n ∧ n ≤ n' + m ∧ n' ≤ c' ∧ c' ≤ c ∧
      ∀ (w : World) (xs : List Int), RdT w A n xs → RdT w A' n' (xs.drop m) := by
  obtain ⟨i, hi, hs⟩ := infoBi
  refine ⟨if c = m then A else A.map (·.add m), n - m, c - m, fun W => ?_, by omega, by omega, by omega, by omega, fun w xs h => h.drop m hm hc⟩
  have hel : Try.prog.elem 22 = 5 := by kernel_rfl
  have hu : Try.prog.underlying 22 = some (.slice (Try.prog.elem 22)) := by rw [hel]; exact Try.underlying22
  rw [run_slice_l W _ A n c hu .i64 (m : Int) (by omega) (by omega), hel]
  simp [sizeOf, typeInfo, hi, hs, sliced, Result.andThen]
theorem grown_set (w : World) (a : Addr) (v : Value) : w.grownBy (w.setCell a v) (some a.block) := by
  refine ⟨rfl, rfl, rfl, by simp [World.setCell], fun i hi hne => Below.heap_setCell _ _ _ _ (fun e => hne (by rw [e]))⟩

theorem bad_any (r : Nat) (s : St) (w : World) (h : Rdr 54 w r s.bad s.xs) :
    Calls Try.prog 28 #[.pointer (some ⟨r, 0, none⟩)] w fun e w' => e = .returned (.bool s.bad) ∧ w = w' := by
  obtain ⟨bad, xs⟩ := s
  obtain ⟨A, n, c, h1, h2, h3, h4⟩ := h
  obtain ⟨c0, c1, f0, f1⟩ := cells2 h1
  clear h1 h4
  go_enter Try.func28, Try.ntmps28
  go_wp2
  go_ret
  exact ⟨rfl, rfl⟩
def ended (s : St) : Bool := !s.bad && (s.xs.length == 0)
theorem end_any (r : Nat) (s : St) (w : World) (h : Rdr 54 w r s.bad s.xs) :
    Calls Try.prog 21 #[.pointer (some ⟨r, 0, none⟩)] w fun e w' => e = .returned (.bool (ended s)) ∧ w = w' := by
  obtain ⟨bad, xs⟩ := s
  obtain ⟨A, n, c, h1, h2, h3, h4⟩ := h
  obtain ⟨c0, c1, f0, f1⟩ := cells2 h1
  have hl := Lib.hid h4.1.len
  clear h1 h4
  cases bad
  · have hb : Hid (((n : Int) == 0) = ended ⟨false, xs⟩) := Lib.hid (by
      unfold ended; dsimp only
      rw [hl.out]
      simp only [Bool.not_false, Bool.true_and]
      rw [Bool.eq_iff_iff, beq_iff_eq, beq_iff_eq]; omega)
    go_enter Try.func21, Try.ntmps21
    go_wp2
    go_ret
    exact ⟨by rw [← hb.out]; rfl, rfl⟩
  · go_enter Try.func21, Try.ntmps21
    go_wp2
    go_ret
    exact ⟨rfl, rfl⟩

set_option maxHeartbeats 800000 in
theorem number_any (r : Nat) (s : St) (w : World) (h : Rdr 54 w r s.bad s.xs) :
    Calls Try.prog 22 #[.pointer (some ⟨r, 0, none⟩)] w fun e w' => e = .returned (.int .i64 (number s).1) ∧ Rdr 54 w' r (number s).2.bad (number s).2.xs ∧ w.grownBy w' (some r) := by
  have HH := Lib.hid h
  obtain ⟨bad, xs⟩ := s
  obtain ⟨A, n, c, h1, h2, h3, h4⟩ := h
  obtain ⟨c0, c1, f0, f1⟩ := cells2 h1
  have H1 := Lib.hid h1
  have H4 := Lib.hid h4
  clear h1 h4
  cases bad
  · have hd := dec_len xs H4.out.1.2
    rw [H4.out.1.len] at hd
    have HN : Hid (number ⟨false, xs⟩ = ((dec 0 xs).1, ⟨(dec 0 xs).2 == 0, xs.drop (dec 0 xs).2⟩)) := Lib.hid rfl
    obtain ⟨A2, n2, c2, hcut, hm1, hm2, hm3, hm4, hrd⟩ := cutT A n c (dec 0 xs).2 hd h2
    have HRD := Lib.hid hrd
    have HT := Lib.hid (take_any A n c xs w H4.out.1)
    clear hrd
    generalize (dec 0 xs).1 = x at HN HT
    generalize (dec 0 xs).2 = k at hd HN HT hcut hm1 hm2 HRD
    go_enter Try.func22, Try.ntmps22
    go_wp2_with (go_at_call 12; refine HT.out.mono ?_; rintro e w' ⟨rfl, rfl⟩)
    go_ret
    rw [HN.out]
    refine ⟨rfl, ⟨A2, n2, c2, ?_, hm3, by omega, ?_⟩, ?_⟩
    · have := set0 (v := .slice A2 n2 c2) (set1 (v := .bool ((k : Int) == 0)) H1.out)
      rw [show (((k : Nat) == 0) : Bool) = ((k : Int) == 0) from by rw [Bool.eq_iff_iff, beq_iff_eq, beq_iff_eq]; omega]
      exact this
    · have e1 := (H4.out.turned (grown_set w ⟨r, 1, none⟩ (.bool ((k : Int) == 0))) H1.out (by decide)).turned (grown_set _ ⟨r, 0, none⟩ (.slice A2 n2 c2)) (set1 H1.out) (by decide)
      exact HRD.out _ _ e1
    · exact World.grownBy.trans (grown_set w ⟨r, 1, none⟩ _) (grown_set _ ⟨r, 0, none⟩ _)
  · go_enter Try.func22, Try.ntmps22
    go_wp2
    go_ret
    exact ⟨rfl, HH.out, World.grownBy.refl _ _⟩

theorem bytes_bad (xs : List Int) (n : Int) : bytes ⟨true, xs⟩ n = ([], ⟨true, xs⟩) := rfl
theorem bytes_out (xs : List Int) (n : Int) (h : n < 0 ∨ (xs.length : Int) < n) : bytes ⟨false, xs⟩ n = ([], ⟨true, xs⟩) := by unfold bytes; dsimp only; rw [if_neg (by decide), if_pos h]
theorem bytes_in (xs : List Int) (k : Nat) (h : k ≤ xs.length) : bytes ⟨false, xs⟩ (k : Int) = (xs.take k, ⟨false, xs.drop k⟩) := by unfold bytes; dsimp only; rw [if_neg (by decide), if_neg (by omega)]; rfl
/-- a slice of bytes in new memory is handed back; the reader has gone on -/
def RetR (T : TypeId) (w : World) (r : Nat) (p : List Int × St) (e : Ending) (w' : World) : Prop := ∃ A n c, e = .returned (.slice A n c) ∧ OwB w' w.heap.size A n c p.1 ∧ Rdr T w' r p.2.bad p.2.xs ∧ w.grownBy w' (some r)
theorem RetR.none {T : TypeId} {w : World} {r : Nat} {s : St} (h : Rdr T w r s.bad s.xs) : RetR T w r ([], s) (.returned (.slice .none 0 0)) w := ⟨.none, 0, 0, rfl, OwB.nil _ _, h, World.grownBy.refl _ _⟩
theorem RetR.fault {T : TypeId} {w : World} {r : Nat} {bad : Bool} {xs : List Int} (h : Rdr T w r bad xs) (hT : T ≠ 5) : RetR T w r ([], ⟨true, xs⟩) (.returned (.slice .none 0 0)) (w.setCell ⟨r, 1, .none⟩ (.bool true)) := by
  obtain ⟨A, n, c, h1, h2, h3, h4⟩ := h
  exact ⟨.none, 0, 0, rfl, OwB.nil _ _, ⟨A, n, c, set1 h1, h2, h3, h4.turned (grown_set w ⟨r, 1, .none⟩ _) h1 hT⟩, grown_set w ⟨r, 1, .none⟩ _⟩
theorem RetR.good {T : TypeId} {w w2 : World} {r : Nat} {bad : Bool} {xs : List Int} {A : Option Addr} {n c : Nat} {A2 A1 : Option Addr} {n2 c2 k n1 c1 : Nat} (h1 : w.heap[r]? = some (.cells #[.slice A n c, .bool bad] T (0, 0))) (h4 : RdT w A n xs) (hT : T ≠ 5)
    (hb : Below w.heap.size w w2) (ho : OwB w2 w.heap.size A1 n1 c1 (xs.take k)) (hc2 : n2 ≤ c2) (hn2 : n2 ≤ 140737488355328) (hrd : ∀ (w : World) (xs : List Int), RdT w A n xs → RdT w A2 n2 (xs.drop k)) :
    RetR T w r (xs.take k, ⟨bad, xs.drop k⟩) (.returned (.slice A1 n1 c1)) (w2.setCell ⟨r, 0, .none⟩ (.slice A2 n2 c2)) := by
  have hlt := (Array.getElem?_eq_some_iff.1 h1).1
  have h1' : w2.heap[r]? = some (.cells #[.slice A n c, .bool bad] T (0, 0)) := by rw [hb.block _ hlt]; exact h1
  refine ⟨A1, n1, c1, rfl, ⟨ownsRow_setCell_below ho.1 hlt _, ho.2⟩, ⟨A2, n2, c2, set0 h1', hc2, hn2, (hrd w2 xs (h4.below hb)).turned (grown_set w2 ⟨r, 0, .none⟩ _) h1' hT⟩, ?_⟩
  exact World.grownBy.trans (grown_of_below hb (some r)) (grown_set w2 ⟨r, 0, .none⟩ _)

set_option maxHeartbeats 800000 in
theorem bytes_any (r : Nat) (s : St) (n : Int) (w : World) (h : Rdr 54 w r s.bad s.xs) :
    Calls Try.prog 20 #[.pointer (some ⟨r, 0, none⟩), .int .i64 n] w (RetR 54 w r (bytes s n)) := by
  have HH := Lib.hid h
  obtain ⟨bad, xs⟩ := s
  obtain ⟨A, m, c, h1, h2, h3, h4⟩ := h
  obtain ⟨c0, c1, f0, f1⟩ := cells2 h1
  have H1 := Lib.hid h1
  have H4 := Lib.hid h4
  have R0 := Lib.hid (Below.refl w.heap.size w)
  have hlt := (Array.getElem?_eq_some_iff.1 h1).1
  clear h1 h4
  cases bad
  · by_cases hn0 : n < 0
    · rw [bytes_out xs n (.inl hn0)]
      go_enter Try.func20, Try.ntmps20
      go_wp2
      go_ret
      exact RetR.fault HH.out (by decide)
    · obtain ⟨k, rfl⟩ := Int.eq_ofNat_of_zero_le (show 0 ≤ n by omega)
      by_cases hk : k ≤ m
      · rw [bytes_in xs k (by rw [H4.out.1.len]; exact hk)]
        have hkc : k ≤ c := Nat.le_trans hk h2
        obtain ⟨A2, n2, c2, hcut, hm1, hm2, hm3, hm4, hrd⟩ := cutT A m c k hk h2
        have HRD := Lib.hid hrd
        clear hrd
        go_enter Try.func20, Try.ntmps20
        go_wp2_with (first | (at_builtin; refine app (w0 := w) (base := w.heap.size) rfl (.tmp 28) (.tmp 34) rfl rfl rfl (OwB.lit0 w _ (Nat.le_refl _)) ((H4.out.1.take k hk).below (R0.out.alloc (Nat.le_refl _) _)) (R0.out.alloc (Nat.le_refl _) _) ?s2 ?l2 ?_; (case s2 => simp); (case l2 => omega); intro A2 n2 c2 w2 ho hb; rw [List.nil_append] at ho; have d0 := (hb.cell (p := ⟨r, 0, none⟩) hlt).trans c0; have d1 := (hb.cell (p := ⟨r, 1, none⟩) hlt).trans c1; have g0 := (hb.frozen (p := ⟨r, 0, none⟩) hlt).trans f0; have HO2 := Lib.hid ho; have HB2 := Lib.hid hb; clear ho hb))
        go_ret
        exact RetR.good H1.out H4.out (by decide) HB2.out HO2.out hm3 (by omega) HRD.out
      · rw [bytes_out xs k (.inr (by rw [H4.out.1.len]; omega))]
        have hk' : (m : Int) < (k : Int) := by omega
        go_enter Try.func20, Try.ntmps20
        go_wp2
        go_ret
        exact RetR.fault HH.out (by decide)
  · rw [bytes_bad]
    go_enter Try.func20, Try.ntmps20
    go_wp2
    go_ret
    exact RetR.none HH.out
theorem refleft_any (r : Nat) (s : St) (w : World) (h : Rdr 46 w r s.bad s.xs) :
    Calls Try.prog 27 #[.pointer (some ⟨r, 0, none⟩)] w fun e w' => e = .returned (.int .i64 (left s : Nat)) ∧ w = w' := by
  obtain ⟨bad, xs⟩ := s
  obtain ⟨A, n, c, h1, h2, h3, h4⟩ := h
  obtain ⟨c0, c1, f0, f1⟩ := cells2 h1
  have hl := Lib.hid h4.1.len
  clear h1 h4
  cases bad
  · go_enter Try.func27, Try.ntmps27
    go_wp2
    go_ret
    exact ⟨by unfold left; rw [← hl.out]; rfl, rfl⟩
  · go_enter Try.func27, Try.ntmps27
    go_wp2
    go_ret
    exact ⟨rfl, rfl⟩

set_option maxHeartbeats 800000 in
theorem refnumber_any (r : Nat) (s : St) (w : World) (h : Rdr 46 w r s.bad s.xs) :
    Calls Try.prog 23 #[.pointer (some ⟨r, 0, none⟩)] w fun e w' => e = .returned (.int .i64 (number s).1) ∧ Rdr 46 w' r (number s).2.bad (number s).2.xs ∧ w.grownBy w' (some r) := by
  have HH := Lib.hid h
  obtain ⟨bad, xs⟩ := s
  obtain ⟨A, n, c, h1, h2, h3, h4⟩ := h
  obtain ⟨c0, c1, f0, f1⟩ := cells2 h1
  have H1 := Lib.hid h1
  have H4 := Lib.hid h4
  clear h1 h4
  cases bad
  · have hd := dec_len xs H4.out.1.2
    rw [H4.out.1.len] at hd
    have HT := Lib.hid (reftake_any A n c xs w H4.out.1)
    by_cases hk0 : (dec 0 xs).2 = 0
    · have HN : Hid (number ⟨false, xs⟩ = (0, ⟨true, xs⟩)) := Lib.hid (by
        show ((dec 0 xs).1, (⟨(dec 0 xs).2 == 0, xs.drop (dec 0 xs).2⟩ : St)) = _
        rw [dec_zero 0 xs hk0]; rfl)
      rw [dec_zero 0 xs hk0] at HT
      clear hk0 hd
      go_enter Try.func23, Try.ntmps23
      go_wp2_with (go_at_call 13; refine HT.out.mono ?_; rintro e w' ⟨rfl, rfl⟩)
      go_ret
      rw [HN.out]
      refine ⟨rfl, ⟨A, n, c, set1 H1.out, h2, h3, H4.out.turned (grown_set w ⟨r, 1, none⟩ _) H1.out (by decide)⟩, grown_set w ⟨r, 1, none⟩ _⟩
    · have HN : Hid (number ⟨false, xs⟩ = ((dec 0 xs).1, ⟨false, xs.drop (dec 0 xs).2⟩)) := Lib.hid (by
        show ((dec 0 xs).1, (⟨(dec 0 xs).2 == 0, xs.drop (dec 0 xs).2⟩ : St)) = _
        rw [beq_eq_false_iff_ne.2 hk0])
      obtain ⟨A2, n2, c2, hcut, hm1, hm2, hm3, hm4, hrd⟩ := cutT A n c (dec 0 xs).2 hd h2
      have HRD := Lib.hid hrd
      clear hrd
      generalize (dec 0 xs).1 = x at HN HT
      generalize (dec 0 xs).2 = k at hd HN HT hcut hm1 hm2 HRD hk0
      have hkb : ((k : Int) == 0) = false := beq_eq_false_iff_ne.2 (by omega)
      go_enter Try.func23, Try.ntmps23
      go_wp2_with (go_at_call 13; refine HT.out.mono ?_; rintro e w' ⟨rfl, rfl⟩)
      go_ret
      rw [HN.out]
      exact ⟨rfl, ⟨A2, n2, c2, set0 H1.out, hm3, by omega, (HRD.out _ _ H4.out).turned (grown_set w ⟨r, 0, none⟩ _) H1.out (by decide)⟩, grown_set w ⟨r, 0, none⟩ _⟩
  · go_enter Try.func23, Try.ntmps23
    go_wp2
    go_ret
    exact ⟨rfl, HH.out, World.grownBy.refl _ _⟩
set_option maxHeartbeats 800000 in
theorem refbytes_any (r : Nat) (s : St) (n : Int) (w : World) (h : Rdr 46 w r s.bad s.xs) :
    Calls Try.prog 24 #[.pointer (some ⟨r, 0, none⟩), .int .i64 n] w (RetR 46 w r (bytes s n)) := by
  have HH := Lib.hid h
  obtain ⟨bad, xs⟩ := s
  obtain ⟨A, m, c, h1, h2, h3, h4⟩ := h
  obtain ⟨c0, c1, f0, f1⟩ := cells2 h1
  have H1 := Lib.hid h1
  have H4 := Lib.hid h4
  have R0 := Lib.hid (Below.refl w.heap.size w)
  have hlt := (Array.getElem?_eq_some_iff.1 h1).1
  clear h1 h4
  cases bad
  · by_cases hn0 : n < 0
    · rw [bytes_out xs n (.inl hn0)]
      go_enter Try.func24, Try.ntmps24
      go_wp2
      go_ret
      exact RetR.fault HH.out (by decide)
    · obtain ⟨k, rfl⟩ := Int.eq_ofNat_of_zero_le (show 0 ≤ n by omega)
      by_cases hk : k ≤ m
      · rw [bytes_in xs k (by rw [H4.out.1.len]; exact hk)]
        have hkc : k ≤ c := Nat.le_trans hk h2
        obtain ⟨A2, n2, c2, hcut, hm1, hm2, hm3, hm4, hrd⟩ := cutT A m c k hk h2
        have HRD := Lib.hid hrd
        clear hrd
        go_enter Try.func24, Try.ntmps24
        go_wp2_with (first | (at_builtin; refine app (w0 := w) (base := w.heap.size) rfl (.tmp 26) (.tmp 32) rfl rfl rfl (OwB.lit0 w _ (Nat.le_refl _)) ((H4.out.1.take k hk).below (R0.out.alloc (Nat.le_refl _) _)) (R0.out.alloc (Nat.le_refl _) _) ?s2 ?l2 ?_; (case s2 => simp); (case l2 => omega); intro A2 n2 c2 w2 ho hb; rw [List.nil_append] at ho; have d0 := (hb.cell (p := ⟨r, 0, none⟩) hlt).trans c0; have d1 := (hb.cell (p := ⟨r, 1, none⟩) hlt).trans c1; have g0 := (hb.frozen (p := ⟨r, 0, none⟩) hlt).trans f0; have HO2 := Lib.hid ho; have HB2 := Lib.hid hb; clear ho hb))
        go_ret
        exact RetR.good H1.out H4.out (by decide) HB2.out HO2.out hm3 (by omega) HRD.out
      · rw [bytes_out xs k (.inr (by rw [H4.out.1.len]; omega))]
        have hk' : (m : Int) < (k : Int) := by omega
        go_enter Try.func24, Try.ntmps24
        go_wp2
        go_ret
        exact RetR.fault HH.out (by decide)
  · rw [bytes_bad]
    go_enter Try.func24, Try.ntmps24
    go_wp2
    go_ret
    exact RetR.fault HH.out (by decide)

def byteOf (out : List Int) : Int := if out.length = 1 then out.getD 0 0 else 0
theorem byte_any (r : Nat) (s : St) (w : World) (h : Rdr 54 w r s.bad s.xs) :
    Calls Try.prog 25 #[.pointer (some ⟨r, 0, none⟩)] w fun e w' => e = .returned (.int .u8 (byteOf (bytes s 1).1)) ∧ Rdr 54 w' r (bytes s 1).2.bad (bytes s 1).2.xs ∧ w.grownBy w' (some r) := by
  have HH := Lib.hid h
  clear h
  go_enter Try.func25, Try.ntmps25
  go_wp2_with fail
  refine (bytes_any _ _ _ _ HH.out).mono ?_
  rintro e w2 ⟨A, n, c, rfl, ho, hr, hg⟩
  have HR := Lib.hid hr
  have HG := Lib.hid hg
  have HO := Lib.hid ho
  have hl := ho.len
  clear hr hg ho
  obtain ⟨out, hout⟩ : ∃ o, (bytes s 1).1 = o := ⟨_, rfl⟩
  rw [hout] at hl HO
  have HOut := Lib.hid hout
  clear hout
  by_cases h1 : n = 1
  · subst h1
    obtain ⟨ad, rfl, hcell⟩ := HO.out.rd.at_ 0 (by decide)
    have hz : ad.add 0 = ad := rfl
    rw [hz] at hcell
    have HE : Hid (byteOf out = out.getD 0 0) := Lib.hid (by unfold byteOf; rw [if_pos hl])
    generalize out.getD 0 0 = b at hcell HE
    clear hl hz
    go_wp2
    go_ret
    exact ⟨by rw [HOut.out, HE.out]; rfl, HR.out, HG.out⟩
  · have HE : Hid (byteOf out = 0) := Lib.hid (by unfold byteOf; rw [if_neg (by omega)])
    have hb : ((n : Int) == 1) = false := beq_eq_false_iff_ne.2 (by omega)
    clear hl h1
    go_wp2
    go_ret
    exact ⟨by rw [HOut.out, HE.out]; rfl, HR.out, HG.out⟩

/-- a new reader is handed back -/
def RetN (w : World) (xs : List Int) (e : Ending) (w' : World) : Prop := ∃ r, e = .returned (.pointer (some ⟨r, 0, none⟩)) ∧ w.heap.size ≤ r ∧ Rdr 54 w' r false xs ∧ Below w.heap.size w w'
theorem new_any (A : Option Addr) (n c : Nat) (xs : List Int) (w : World) (hr : RdB w A n xs) (hn : n ≤ 140737488355328) :
    Calls Try.prog 19 #[.slice A n c] w (RetN w xs) := by
  have HR := Lib.hid hr
  have R0 := Lib.hid (Below.refl w.heap.size w)
  clear hr
  go_enter Try.func19, Try.ntmps19
  go_wp2_with (first | (at_builtin; refine app (w0 := w) (base := w.heap.size) rfl (.tmp 3) (.tmp 4) rfl rfl rfl (OwB.lit0 w _ (Nat.le_refl _)) (HR.out.below (R0.out.alloc (Nat.le_refl _) _)) (R0.out.alloc (Nat.le_refl _) _) ?s2 ?l2 ?_; (case s2 => simp); (case l2 => omega); intro A2 n2 c2 w2 ho hb; have hl := ho.len; rw [List.nil_append] at ho; rw [List.nil_append, HR.out.len] at hl; subst hl; have HO2 := Lib.hid ho; have HB2 := Lib.hid hb; clear ho hb))
  go_ret
  refine ⟨w2.heap.size, rfl, HB2.out.size, ⟨A2, n, c2, ?_, HO2.out.cap, hn, (OwB.rdT HO2.out).below (below_alloc (Below.refl _ _) _)⟩, HB2.out.alloc HB2.out.size _⟩
  show (w2.heap.push _)[w2.heap.size]? = _
  simp
end Go.Proofs.Ytlbhmbbmpmhcjaa.rdr
