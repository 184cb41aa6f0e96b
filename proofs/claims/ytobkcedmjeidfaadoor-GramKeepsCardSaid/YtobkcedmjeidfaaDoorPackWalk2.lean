/- What pack.Put, pack.Size, the reference's Put and Take compute. -/
import Derived.Test.YtobkcedmjeidfaaDoorPackWalk
set_option linter.unusedVariables false
set_option linter.unusedSimpArgs false
namespace Go.Proofs.YtobkcedmjeidfaaDoor.packw
open Go.RowKit Go.Proofs.YtobkcedmjeidfaaDoorW.PrintWords Go.Proofs.YtobkcedmjeidfaaDoor.base Go.Proofs.YtobkcedmjeidfaaDoor.mem Go.Proofs.YtobkcedmjeidfaaDoor.packp

set_option maxHeartbeats 1000000 in
theorem reftake_any (A : Option Addr) (n c : Nat) (xs : List Int) (w : World) (hr : RdB w A n xs) :
    Calls Tryd.prog 34 #[.slice A n c] w fun e w' => e = .returned (.tuple #[.int .i64 (dec 0 xs).1, .int .i64 ((dec 0 xs).2 : Nat)]) ∧ w = w' := by
  have HR := Lib.hid hr
  have hn := hr.max
  clear hr
  go_enter Tryd.func34, Tryd.ntmps34
  go_wp2
  go_loop [4] (fun a => ∃ (i : Nat), i ≤ n ∧ a = .int .i64 i ∧ Aside0 (∀ j, j < i → 128 ≤ xs.getD j 0)) (fun i => n - (intOf i).toNat)
  case atStart => exact ⟨0, by omega, rfl, ⟨fun j hj => absurd hj (by omega)⟩⟩
  case round =>
    obtain ⟨i, hin, rfl, HL⟩ := hrel
    by_cases hlt : i < n
    · obtain ⟨ad, rfl, hcell⟩ := HR.out.at_ i hlt
      have hb0 := (HR.out.2 i).1
      have hb1 := (HR.out.2 i).2
      have hlen : i < xs.length := by rw [HR.out.len]; exact hlt
      by_cases hbig : 128 ≤ xs.getD i 0
      · have HL2 : Aside0 (∀ j, j < i + 1 → 128 ≤ xs.getD j 0) := ⟨fun j hj => by
          rcases Nat.lt_or_ge j i with h | h
          · exact HL.out j h
          · obtain rfl : j = i := by omega
            exact hbig⟩
        generalize xs.getD i 0 = b at hcell hb0 hb1 hbig
        go_wp2
        go_round
        case rel => exact ⟨i + 1, by omega, by go_num, HL2⟩
        case measure => simp [intOf]; omega
      · have hd := dec_lead xs HR.out.2 i i 0 (by omega) (fun j _ h => HL.out j h) (by omega)
        rw [List.drop_zero] at hd
        have hskip : ¬ (127 < xs.getD i 0 ∧ i < xs.length ∧ i < 9) := by omega
        rw [if_neg hskip] at hd
        by_cases h9 : 9 ≤ i
        · rw [if_pos (by omega)] at hd
          have HD := Lib.hid hd
          generalize xs.getD i 0 = b at hcell hb0 hb1 hbig
          clear hd hskip
          go_wp2
          go_ret2
          exact ⟨by rw [HD.out]; rfl, rfl⟩
        · by_cases h0 : 0 < i ∧ xs.getD i 0 = 0
          · rw [if_pos (by omega)] at hd
            have HD := Lib.hid hd
            obtain ⟨h00, h01⟩ := h0
            rw [h01] at hcell
            clear hd hskip hb0 hb1 hbig h01
            go_wp2
            go_ret2
            exact ⟨by rw [HD.out]; rfl, rfl⟩
          · rw [if_neg (by omega)] at hd
            have HD := Lib.hid hd
            have hbz : 0 < i → (xs.getD i 0 == 0) = false := fun h => beq_eq_false_iff_ne.2 fun e => h0 ⟨h, e⟩
            clear hd hskip h0
            have fin2 : ∀ (Q : Exit → Act → World → Prop), True := fun _ => trivial
            clear fin2
            by_cases hi0 : 0 < i
            all_goals
              first | have hbz1 := hbz hi0 | skip
              clear hbz
              generalize xs.getD i 0 = b at *
              go_wp2
              go_loop [5, 6] (fun a c => ∃ (m : Nat) (x : Int), m ≤ i + 1 ∧ c = .int .i64 ((m : Int) - 1) ∧ 0 ≤ x ∧ a = .int .i64 x ∧ Aside0 (x = hor xs (i + 1 - m) m)) (fun _ c => (intOf c + 1).toNat)
              case atStart => exact ⟨i + 1, 0, by omega, by congr 1; omega, by omega, rfl, ⟨by rw [Nat.sub_self]; rfl⟩⟩
              case round =>
                obtain ⟨m, x, hm, rfl, hx0, rfl, HX⟩ := hrel
                cases m with
                | zero =>
                  have HF : Aside0 (x = hor xs (i + 1) 0) := ⟨HX.out⟩
                  clear HX
                  go_wp2
                  go_ret2
                  exact ⟨by rw [HD.out, ← HF.out]; rfl, rfl⟩
                | succ j =>
                  obtain ⟨ad2, he2, hc2⟩ := HR.out.at_ j (by omega)
                  injection he2 with he2
                  subst he2
                  have hx1 : x ≤ 72057594037927935 := by
                    have h1 := (hor_lt xs (i + 1 - (j + 1)) (j + 1)).2
                    rw [← HX.out] at h1
                    have h2 : (128 : Int) ^ (i + 1 - (j + 1)) ≤ 128 ^ 8 := by
                      have := Nat.pow_le_pow_right (n := 128) (by decide) (show i + 1 - (j + 1) ≤ 8 by omega)
                      exact_mod_cast this
                    omega
                  have HS : Aside0 (x * 128 + xs.getD j 0 % 128 = hor xs (i + 1 - j) j) := ⟨by
                    rw [show i + 1 - j = (i + 1 - (j + 1)) + 1 from by omega]
                    simp only [hor]
                    rw [← HX.out, Int.add_comm, Int.mul_comm]⟩
                  have hb2 := (HR.out.2 j).1
                  have hb3 := (HR.out.2 j).2
                  generalize xs.getD j 0 = b2 at hc2 HS hb2 hb3
                  rw [show (((j + 1 : Nat) : Int) - 1) = (j : Int) from by omega]
                  go_wp2
                  go_round
                  case rel => exact ⟨j, _, by omega, rfl, by omega, rfl, HS⟩
                  case measure => simp [intOf]
    · obtain rfl : i = n := by omega
      have hd := dec_lead xs HR.out.2 i i 0 (by omega) (fun j _ h => HL.out j h) (by rw [HR.out.len]; omega)
      have hl := HR.out.len
      rw [List.drop_zero, if_pos (.inl (by omega)), if_neg (by omega)] at hd
      have HD := Lib.hid hd
      clear hd hl
      go_wp2
      go_ret2
      exact ⟨by rw [HD.out]; rfl, rfl⟩

/-- a slice of bytes in new memory is handed back -/
def RetB (w : World) (xs : List Int) (e : Ending) (w' : World) : Prop := ∃ A n c, e = .returned (.slice A n c) ∧ OwB w' w.heap.size A n c xs ∧ Below w.heap.size w w'

theorem mkB (k : Nat) (hk : k ≤ 281474976710656) : ∀ W : World, (Instr.makeSlice 22 (.int .i64 0) (.int .i64 (k : Int))).run Tryd.prog W = .ok (.slice (some ⟨W.heap.size, 0, none⟩) 0 k) (W.alloc (.cells (madeCells #[.int .u8 0] k) 5)) := by
  intro W
  obtain ⟨i0, hi, hzz⟩ := Option.map_eq_some_iff.1 infoB
  simp only [Prod.mk.injEq] at hzz
  obtain ⟨hz0, hz1, hz2⟩ := hzz
  have h := run_make (P := Tryd.prog) W 22 5 i0 (.int .u8 0) Tryd.underlying22 hi hz0 .i64 .i64 0 k (by omega) (by omega) (by rw [hz2]; omega) (by omega)
  rw [hz1] at h
  simpa [Value.cells] using h
theorem OwB.made (W : World) (base k : Nat) (hb : base ≤ W.heap.size) (hk : k ≤ 281474976710656) : OwB (W.alloc (.cells (madeCells #[.int .u8 0] k) 5)) base (some ⟨W.heap.size, 0, none⟩) 0 k [] :=
  ⟨World.ownsRow_made W _ k hb (by unfold maxLen; omega) (by rw [size_madeCells, Nat.mul_one]), By_of _ (by simp)⟩

theorem put_room {xs ys zs : List Int} {n n3 m k x : Nat} {z : Int} (h1 : xs.length = n) (h2 : ys.length = n3) (h3 : zs.length = m) (hk : k < m) (hw : ∀ y ∈ zs, y ≤ 9223372036854775807) (hs : zs.take (k + 1) = zs.take k ++ [z])
    (he : ys ++ enc x = xs ++ encAll (zs.take k) ++ encI z) : n3 + 1 ≤ n + 9 * (k + 1) := by
  have h4 := encAll_len (zs.take (k + 1)) (fun y hy => hw y (List.mem_of_mem_take hy))
  rw [hs, encAll_snoc, ← hs, List.length_take, List.length_append] at h4
  have h5 := congrArg List.length he
  simp only [List.length_append] at h5
  have h6 : 1 ≤ (enc x).length := by
    have := enc_ne x
    cases e : enc x with
    | nil => exact absurd e this
    | cons => simp
  omega
theorem put_step {ys r : List Int} {x : Nat} (hx : 127 < x) (h : ys ++ enc x = r) : ys ++ [(x : Int) % 128 + 128] ++ enc (x / 128) = r := by
  rw [enc_big x (by omega)] at h
  rw [← h, List.append_assoc]
  rfl
theorem put_last {xs ys zs : List Int} {k x : Nat} {z : Int} (hx : ¬ 127 < x) (h : ys ++ enc x = xs ++ encAll (zs.take k) ++ encI z) (hs : zs.take (k + 1) = zs.take k ++ [z]) : ys ++ [(x : Int)] = xs ++ encAll (zs.take (k + 1)) := by
  rw [enc_small x (by omega)] at h
  rw [h, hs, encAll_snoc, List.append_assoc]
set_option maxHeartbeats 1000000 in
theorem put_any (A : Option Addr) (n c : Nat) (xs : List Int) (A' : Option Addr) (m c' : Nat) (zs : List Int) (w : World) (hr : RdB w A n xs) (hz : ReadsInt w .i64 A' m zs) (hw : ∀ z ∈ zs, -9223372036854775808 ≤ z ∧ z ≤ 9223372036854775807) (hl : n + 9 * m ≤ 140737488355328) :
    Calls Tryd.prog 27 #[.slice A n c, .slice A' m c'] w (RetB w (xs ++ encAll zs)) := by
  have HR := Lib.hid hr
  have HZ := Lib.hid hz
  have HW := Lib.hid hw
  have R0 := Lib.hid (Below.refl w.heap.size w)
  have hmk : ∀ W : World, (Instr.makeSlice 22 (.int .i64 0) (.int .i64 ((n : Int) + 2 * (m : Int)))).run Tryd.prog W = .ok (.slice (some ⟨W.heap.size, 0, none⟩) 0 (n + 2 * m)) (W.alloc (.cells (madeCells #[.int .u8 0] (n + 2 * m)) 5)) := by
    intro W
    have := mkB (n + 2 * m) (by omega) W
    rwa [show (((n + 2 * m : Nat)) : Int) = (n : Int) + 2 * (m : Int) from by omega] at this
  clear hr hz hw
  go_enter Tryd.func27, Tryd.ntmps27
  go_wp2_with (first | (at_builtin; refine app (w0 := w) (base := w.heap.size) rfl (.tmp 14) (.tmp 15) rfl rfl rfl (OwB.made w _ _ (Nat.le_refl _) (by omega)) (HR.out.below (R0.out.alloc (Nat.le_refl _) _)) (R0.out.alloc (Nat.le_refl _) _) ?s2 ?l2 ?_; (case s2 => simp); (case l2 => omega); intro A2 n2 c2 w2 ho hb; have hL1 := ho.len; rw [List.nil_append] at ho; rw [List.nil_append, HR.out.len] at hL1; subst hL1; have HO2 := Lib.hid ho; have HB2 := Lib.hid hb; clear ho hb))
  have hs0 : True := trivial
  go_loopw [5, 7, 19] (fun o _ i wr => ∃ (k : Nat) (A1 : Option Addr) (n1 c1 : Nat), k ≤ m ∧ i = .int .i64 k ∧ o = .slice A1 n1 c1 ∧ Aside0 (OwB wr w.heap.size A1 n1 c1 (xs ++ encAll (zs.take k))) ∧ Aside0 (Below w.heap.size w wr)) (fun _ _ i _ => m - (intOf i).toNat)
  case atStart => exact ⟨0, A2, n, c2, by omega, rfl, rfl, ⟨by simpa [encAll] using HO2.out⟩, ⟨HB2.out⟩⟩
  case round =>
    obtain ⟨k, A1, n1, c1, hk, rfl, rfl, HO, HB⟩ := hrel
    by_cases hlt : k < m
    · obtain ⟨ad, rfl, hall⟩ := (HZ.out.below HB.out).2.2 (by omega)
      have hcell := hall k hlt
      have hzl := HZ.out.1
      have hzb := HW.out (zs.getD k 0) (by rw [List.getD_eq_getElem?_getD, List.getElem?_eq_getElem (by omega)]; exact List.getElem_mem _)
      have HS := Aside0.mk (take_snoc zs k (by omega))
      have hlen := HO.out.len
      have hel := encAll_len (zs.take k) (fun z hz => (HW.out z (List.mem_of_mem_take hz)).2)
      rw [List.length_append, HR.out.len] at hlen
      rw [List.length_take] at hel
      have hn1 : n1 ≤ n + 9 * k := by omega
      generalize zs.getD k 0 = z at hcell hzb HS
      obtain ⟨hz0, hz1⟩ := hzb
      clear hall hzl hlen hel
      by_cases hneg : z < 0
      all_goals
        go_wp2
        go_loopw [5, 7] (fun o a wr2 => ∃ (x : Nat) (A3 : Option Addr) (n3 c3 : Nat) (ys : List Int), a = .int .i64 x ∧ x ≤ 9223372036854775807 ∧ o = .slice A3 n3 c3 ∧ Aside0 (ys ++ enc x = xs ++ encAll (zs.take k) ++ encI z) ∧ Aside0 (OwB wr2 w.heap.size A3 n3 c3 ys) ∧ Aside0 (Below w.heap.size w wr2)) (fun _ a _ => (intOf a).toNat)
        case atStart => exact ⟨z.toNat, A1, n1, c1, _, congrArg (Value.int .i64) (by omega), by omega, rfl, ⟨rfl⟩, HO, HB⟩
        case round =>
          obtain ⟨x, A3, n3, c3, ys, rfl, hx, rfl, HE, HO3, HB3⟩ := hrel
          have hroom : n3 + 1 ≤ n + 9 * (k + 1) := put_room HR.out.len HO3.out.len HZ.out.1 hlt (fun y hy => (HW.out y hy).2) HS.out HE.out
          have hs3 := HB3.out.size
          by_cases hbig : 127 < x
          · have hor := bits_or_128 (x : Int) (by omega) (by omega)
            have LB : Hid (By [(x : Int) % 128 + 128]) := Lib.hid (By_of _ fun y hy => by simp at hy; omega)
            have LE := Aside0.mk (put_step hbig HE.out)
            go_wp2_with (first | (at_builtin; refine app (w0 := w) (base := w.heap.size) rfl (.tmp 29) (.tmp 34) rfl rfl rfl (HO3.out.alloc _) (litB wr (0, 0) [(x : Int) % 128 + 128] (Nat.le_of_ble_eq_true rfl) LB.out) (HB3.out.alloc hs3 _) ?s5 ?l5 ?_; (case s5 => simp; omega); (case l5 => simp; omega); intro A5 n5 c5 w5 ho hb; have HO5 := Lib.hid ho; have HB5 := Lib.hid hb; clear ho hb))
            go_roundw
            case rel => exact ⟨x / 128, A5, n5, c5, _, congrArg (Value.int .i64) (by omega), by omega, rfl, LE, ⟨HO5.out⟩, ⟨HB5.out⟩⟩
            case measure => simp [intOf]; omega
          · have LE := Aside0.mk (put_last hbig HE.out HS.out)
            have LB : Hid (By [(x : Int)]) := Lib.hid (By_of _ fun y hy => by simp at hy; omega)
            go_wp2_with (first | (at_builtin; refine app (w0 := w) (base := w.heap.size) rfl (.tmp 36) (.tmp 39) rfl rfl rfl (HO3.out.alloc _) (litB wr (0, 0) [(x : Int)] (Nat.le_of_ble_eq_true rfl) LB.out) (HB3.out.alloc hs3 _) ?s6 ?l6 ?_; (case s6 => simp; omega); (case l6 => simp; omega); intro A6 n6 c6 w6 ho hb; rw [LE.out] at ho; have HO5 := Lib.hid ho; have HB5 := Lib.hid hb; clear ho hb))
            go_roundw
            case rel => exact ⟨k + 1, A6, n6, c6, by omega, by go_num, rfl, ⟨HO5.out⟩, ⟨HB5.out⟩⟩
            case measure => simp [intOf]; omega
    · obtain rfl : k = m := by omega
      have HF : Aside0 (OwB wr w.heap.size A1 n1 c1 (xs ++ encAll zs)) := ⟨by have := HO.out; rwa [List.take_of_length_le (by have := HZ.out.1; omega)] at this⟩
      go_wp2
      go_ret
      exact ⟨A1, n1, c1, rfl, HF.out, HB.out⟩
end Go.Proofs.YtobkcedmjeidfaaDoor.packw
