/- The walk of the law WireBack. -/
import Derived.Test.YtjhoidookoageaaWireLaws2
import Derived.Test.YtjhoidookoageaaTakeWalk2
import Derived.Test.YtjhoidookoageaaTakePure2
set_option linter.unusedVariables false
set_option linter.unusedSimpArgs false
namespace Go.Proofs.Ytjhoidookoageaa.wirel
open Go.RowKit Go.Proofs.YtjhoidookoageaaW.PrintWords Go.Proofs.Ytjhoidookoageaa.base Go.Proofs.Ytjhoidookoageaa.mem Go.Proofs.Ytjhoidookoageaa.packp Go.Proofs.Ytjhoidookoageaa.packw Go.Proofs.Ytjhoidookoageaa.samew Go.Proofs.Ytjhoidookoageaa.wirep Go.Proofs.Ytjhoidookoageaa.wirew Go.Proofs.Ytjhoidookoageaa.takew

set_option maxHeartbeats 2000000 in
set_option maxRecDepth 100000 in
theorem backLaw (m : M) (A : Option Addr) (n c : Nat) (xs : List Int) (w : World) (hm : m.I) (hr : RdB w A n xs) (hc : n ≤ c) (hn : n * 1 ≤ 140737488351232) :
    Calls Try.prog 7 #[m.agg, .slice A n c] w fun e w' => e = .returned (.bool true) ∧ Below w.heap.size w w' := by
  have HR := Lib.hid hr
  have VM := Lib.hid (valid_any m)
  have PM := Lib.hid (fun W => wput_any none 0 0 [] m W (nilB _) hm (by decide))
  have TB : Hid (m.valid = true → (∀ r, takeM (m.enc ++ r) = ⟨m, m.enc.length, 0⟩) ∧ (∀ i, i < m.enc.length → (takeM (m.enc.take i)).e = 30) ∧ 4 ≤ m.enc.length ∧ m.enc.length ≤ 45) := Lib.hid fun h => ⟨take_back h, take_short h, M.enc_len h⟩
  have HT0 : Hid (∀ W, RdB W A n xs → Calls Try.prog 15 #[.slice A n c] W fun e w' => e = .returned (Res.val (takeM xs)) ∧ Below W.heap.size W w') := Lib.hid fun W h => wtake_any A n c xs W h hc
  have HTold := Lib.hid (take_told hr.2)
  clear hr
  generalize takeM xs = R at HT0 HTold
  obtain ⟨k, o, d, u, v⟩ := m
  obtain ⟨⟨x0, x1, x2, x3, x4⟩, q, r⟩ := R
  have HT : Hid (∀ W, RdB W A n xs → Calls Try.prog 15 #[.slice A n c] W fun e w' => e = .returned (.tuple #[.agg #[.int .i64 x0, .int .i64 x1, .int .i64 x2, .int .i64 x3, .int .i64 x4], .int .i64 q, .int .i64 r]) ∧ Below W.heap.size W w') := HT0
  have VM : Hid (∀ W, Calls Try.prog 10 #[.agg #[.int .i64 k, .int .i64 o, .int .i64 d, .int .i64 u, .int .i64 v]] W fun e w' => e = .returned (.bool (M.valid ⟨k, o, d, u, v⟩)) ∧ Below W.heap.size W w') := VM
  have PM : Hid (∀ W, Calls Try.prog 13 #[.slice none 0 0, .agg #[.int .i64 k, .int .i64 o, .int .i64 d, .int .i64 u, .int .i64 v]] W (RetB W ([] ++ M.enc ⟨k, o, d, u, v⟩))) := PM
  have hn' : n ≤ 140737488351232 := by omega
  show Calls Try.prog 7 #[.agg #[.int .i64 k, .int .i64 o, .int .i64 d, .int .i64 u, .int .i64 v], .slice A n c] w _
  have HX1 := Lib.hid (Box.new w k o d u v)
  have HB1 := Lib.hid (below_alloc (Below.refl w.heap.size w) (.cells #[.int .i64 k, .int .i64 o, .int .i64 d, .int .i64 u, .int .i64 v] 24))
  have hs1 := HB1.out.size
  clear HT0 hn
  go_enter Try.func7, Try.ntmps7
  go_wp2_with fail
  refine (wakes_any _).mono ?_
  rintro e w2 ⟨rfl, hb⟩
  have HB2 := Lib.hid (HB1.out.trans (hb.mono hs1))
  have hs2 := HB2.out.size
  have HX2 := Lib.hid (HX1.out.below hb)
  obtain ⟨e0, e1, e2, e3, e4⟩ := HX2.out
  dsimp only at e0 e1 e2 e3 e4
  clear hb
  go_wp2_with fail
  refine (VM.out _).mono ?_
  rintro e w3 ⟨rfl, hb⟩
  have HB3 := Lib.hid (HB2.out.trans (hb.mono hs2))
  have hs3 := HB3.out.size
  have HX3 := Lib.hid (HX2.out.below hb)
  have HR3 := Lib.hid (HR.out.below HB3.out)
  obtain ⟨e0, e1, e2, e3, e4⟩ := HX3.out
  dsimp only at e0 e1 e2 e3 e4
  clear hb
  cases vm : M.valid ⟨k, o, d, u, v⟩
  · have HBx := HB3
    have HRx := HR3
    go_wp2_with fail
    refine (HT.out _ HRx.out).mono ?_
    rintro e w8 ⟨rfl, hb⟩
    have HB8 := Lib.hid (HBx.out.trans (hb.mono HBx.out.size))
    have hs8 := HB8.out.size
    clear hb
    have HB9 := Lib.hid (HB8.out.alloc hs8 (.cells #[.int .i64 x0, .int .i64 x1, .int .i64 x2, .int .i64 x3, .int .i64 x4] 24))
    have HX9 := Lib.hid (Box.new w8 x0 x1 x2 x3 x4)
    have HR9 := Lib.hid (HR.out.below HB9.out)
    rcases HTold.out with ⟨h1, h2, h3, h4⟩ | ⟨h1, h2, h3⟩
    · dsimp only at h1 h2 h3 h4
      subst h1
      rw [HR.out.len] at h3
      have hq := M.enc_len h2
      have hxi : M.I ⟨x0, x1, x2, x3, x4⟩ := by have := M.valid_parts h2; unfold M.I; dsimp only at this ⊢; omega
      have VX : Hid (∀ W, Calls Try.prog 10 #[.agg #[.int .i64 x0, .int .i64 x1, .int .i64 x2, .int .i64 x3, .int .i64 x4]] W fun e w' => e = .returned (.bool (M.valid ⟨x0, x1, x2, x3, x4⟩)) ∧ Below W.heap.size W w') := Lib.hid (valid_any ⟨x0, x1, x2, x3, x4⟩)
      have PX : Hid (∀ W, Calls Try.prog 13 #[.slice none 0 0, .agg #[.int .i64 x0, .int .i64 x1, .int .i64 x2, .int .i64 x3, .int .i64 x4]] W (RetB W ([] ++ M.enc ⟨x0, x1, x2, x3, x4⟩))) := Lib.hid (fun W => wput_any none 0 0 [] ⟨x0, x1, x2, x3, x4⟩ W (nilB _) hxi (by decide))
      rw [h2] at VX
      rw [h4, List.nil_append] at PX
      have hl4 := congrArg List.length h4
      rw [List.length_take, HR.out.len] at hl4
      have t1 : decide ((0 : Int) < (q : Int)) = true := decide_eq_true (by omega)
      have t1' : decide (0 < q) = true := decide_eq_true (by omega)
      have t2 : decide ((q : Int) ≤ (n : Int)) = true := decide_eq_true (by omega)
      have t2' : decide (q ≤ n) = true := decide_eq_true h3
      have hqc : q ≤ c := by omega
      clear hl4 hq hxi h2 h4
      go_wp2_with fail
      have HBD := Lib.hid HB9.out.drew
      have HXD := Lib.hid (HX9.out.below (Below.refl _ _).drew)
      have hsD := HBD.out.size
      go_region_held3 (fun W => W.cell? ⟨w8.heap.size, 0, none⟩ = some (.int .i64 x0) ∧ W.cell? ⟨w8.heap.size, 1, none⟩ = some (.int .i64 x1) ∧ W.cell? ⟨w8.heap.size, 2, none⟩ = some (.int .i64 x2) ∧ W.cell? ⟨w8.heap.size, 3, none⟩ = some (.int .i64 x3) ∧ W.cell? ⟨w8.heap.size, 4, none⟩ = some (.int .i64 x4)) (first | assumption | exact ⟨HX9.out.1, HX9.out.2.1, HX9.out.2.2.1, HX9.out.2.2.2.1, HX9.out.2.2.2.2⟩ | exact ⟨by assumption, by assumption, by assumption, by assumption, by assumption⟩) (first | (go_at_call 10; refine (VX.out _).mono ?_; rintro e wa ⟨rfl, hb⟩; have HBa := Lib.hid (HBD.out.trans (hb.mono hsD)); have hsa := HBa.out.size; have HXa := Lib.hid (HXD.out.below hb); obtain ⟨y0, y1, y2, y3, y4⟩ := HXa.out; dsimp only at y0 y1 y2 y3 y4; clear hb) | (go_at_call 13; refine (PX.out _).mono ?_; rintro e wb ⟨Ab, nb, cb, rfl, ho, hb⟩; have HOb := Lib.hid ho.rd; have HBb := Lib.hid (HBa.out.trans (hb.mono hsa)); have HXb := Lib.hid (HXa.out.below hb); have HRb := Lib.hid ((HR.out.below HBb.out).take q h3); obtain ⟨y0, y1, y2, y3, y4⟩ := HXb.out; dsimp only at y0 y1 y2 y3 y4; clear hb ho) | (go_at_call 12; refine (same_any _ _ _ _ _ _ _ _ _ HOb.out HRb.out).mono ?_; rintro e wc ⟨rfl, ⟨qq, rfl⟩⟩; rw [eqL_self]))
      go_wp2
      go_ret
      exact ⟨rfl, pw_below_drewN HBb.out _⟩
    · dsimp only at h1 h2 h3
      subst h2
      injection h1 with z0 z1 z2 z3 z4
      subst z0 z1 z2 z3 z4
      rcases h3 with rfl | rfl
      · go_wp2
        go_ret
        exact ⟨rfl, HB9.out⟩
      · go_wp2
        go_ret
        exact ⟨rfl, HB9.out⟩
  · obtain ⟨hTB, hTS, hl4, hl45⟩ := TB.out vm
    have HTB := Lib.hid hTB
    have HTS := Lib.hid hTS
    clear hTB hTS vm TB
    generalize M.enc ⟨k, o, d, u, v⟩ = E at HTB HTS hl4 hl45 PM
    go_wp2_with fail
    refine (PM.out _).mono ?_
    rintro e w4 ⟨A1, n1, c1, rfl, ho, hb⟩
    rw [List.nil_append] at ho
    have hle := ho.len
    subst hle
    have hcap := ho.cap
    have HO4 := Lib.hid ho
    have HB4 := Lib.hid (HB3.out.trans (hb.mono hs3))
    have hs4 := HB4.out.size
    have HX4 := Lib.hid (HX3.out.below hb)
    have HR4 := Lib.hid (HR.out.below HB4.out)
    clear hb ho
    go_wp2_with (first | (at_builtin; refine appFull (w0 := w4) (base := w4.heap.size) rfl (.tmp 25) (.tmp 26) rfl rfl rfl HO4.out.rd HR4.out (Below.refl _ _) (Nat.le_refl _) ?lenA ?_; (case lenA => omega); intro A5 n5 c5 w5 ho hl hb; have HO5 := Lib.hid (HO4.out.below hb); have HB5 := Lib.hid (HB4.out.trans (hb.mono hs4)); have HX5 := Lib.hid (HX4.out.below hb); have hT5 := wtake_any A5 n5 c5 (E ++ xs) w5 ho hl; rw [HTB.out] at hT5; have HT5 := Lib.hid hT5; clear ho hl hb hT5))
    refine HT5.out.mono ?_
    rintro e w6 ⟨rfl, hb⟩
    have HO6 := Lib.hid ((HO5.out.below hb).alloc (.cells #[.int .i64 k, .int .i64 o, .int .i64 d, .int .i64 u, .int .i64 v] 24))
    have hs5 := HB5.out.size
    have HB6 := Lib.hid ((HB5.out.trans (hb.mono hs5)).alloc (Nat.le_trans hs5 hb.size) (.cells #[.int .i64 k, .int .i64 o, .int .i64 d, .int .i64 u, .int .i64 v] 24))
    have HX6 := Lib.hid (HX5.out.below hb)
    obtain ⟨e0, e1, e2, e3, e4⟩ := HX6.out
    have hlt := World.block_lt_of_cell? _ _ e0
    dsimp only at e0 e1 e2 e3 e4 hlt
    have q4 : decide (((E.length : Nat) : Int) < 4) = false := decide_eq_false (by omega)
    have q4' : decide (E.length < 4) = false := decide_eq_false (by omega)
    clear hb HT5
    have e : Res.val ⟨⟨k, o, d, u, v⟩, E.length, 0⟩ = .tuple #[.agg #[.int .i64 k, .int .i64 o, .int .i64 d, .int .i64 u, .int .i64 v], .int .i64 (E.length : Nat), .int .i64 0] := rfl
    rw [e]
    clear e
    go_wp2
    go_loopw [9] (fun i wr => ∃ (j : Nat), j ≤ E.length ∧ i = .int .i64 j ∧ Aside0 (OwB wr w3.heap.size A1 E.length c1 E) ∧ Aside0 (Below w.heap.size w wr)) (fun i _ => E.length - (intOf i).toNat)
    case atStart => exact ⟨0, by omega, rfl, ⟨HO6.out⟩, ⟨HB6.out⟩⟩
    case round =>
      obtain ⟨j, hj, rfl, HOj, HBj⟩ := hrel
      by_cases hlt2 : j < E.length
      · have hjc : j ≤ c1 := by omega
        have HTj := Lib.hid (wtake_any A1 j c1 (E.take j) wr (HOj.out.rd.take j hj) hjc)
        have h30 := HTS.out j hlt2
        generalize takeM (E.take j) = R at HTj h30
        obtain ⟨⟨y0, y1, y2, y3, y4⟩, yn, ye⟩ := R
        dsimp only at h30
        subst h30
        have HTj : Hid (Calls Try.prog 15 #[.slice A1 j c1] wr fun e w' => e = .returned (.tuple #[.agg #[.int .i64 y0, .int .i64 y1, .int .i64 y2, .int .i64 y3, .int .i64 y4], .int .i64 yn, .int .i64 30]) ∧ Below wr.heap.size wr w') := HTj
        go_wp2_with fail
        refine HTj.out.mono ?_
        rintro e w7 ⟨rfl, hb⟩
        have HO7 := Aside0.mk (HOj.out.below hb)
        have HB7 := Aside0.mk (HBj.out.trans (hb.mono HBj.out.size))
        clear hb
        go_wp2
        go_roundw
        case rel => exact ⟨j + 1, by omega, by go_num, HO7, HB7⟩
        case measure => simp [intOf]; omega
      · have HBx := Lib.hid HBj.out
        have HRx := Lib.hid (HR.out.below HBj.out)
        go_wp2_with fail
        refine (HT.out _ HRx.out).mono ?_
        rintro e w8 ⟨rfl, hb⟩
        have HB8 := Lib.hid (HBx.out.trans (hb.mono HBx.out.size))
        have hs8 := HB8.out.size
        clear hb
        have HB9 := Lib.hid (HB8.out.alloc hs8 (.cells #[.int .i64 x0, .int .i64 x1, .int .i64 x2, .int .i64 x3, .int .i64 x4] 24))
        have HX9 := Lib.hid (Box.new w8 x0 x1 x2 x3 x4)
        have HR9 := Lib.hid (HR.out.below HB9.out)
        rcases HTold.out with ⟨h1, h2, h3, h4⟩ | ⟨h1, h2, h3⟩
        · dsimp only at h1 h2 h3 h4
          subst h1
          rw [HR.out.len] at h3
          have hq := M.enc_len h2
          have hxi : M.I ⟨x0, x1, x2, x3, x4⟩ := by have := M.valid_parts h2; unfold M.I; dsimp only at this ⊢; omega
          have VX : Hid (∀ W, Calls Try.prog 10 #[.agg #[.int .i64 x0, .int .i64 x1, .int .i64 x2, .int .i64 x3, .int .i64 x4]] W fun e w' => e = .returned (.bool (M.valid ⟨x0, x1, x2, x3, x4⟩)) ∧ Below W.heap.size W w') := Lib.hid (valid_any ⟨x0, x1, x2, x3, x4⟩)
          have PX : Hid (∀ W, Calls Try.prog 13 #[.slice none 0 0, .agg #[.int .i64 x0, .int .i64 x1, .int .i64 x2, .int .i64 x3, .int .i64 x4]] W (RetB W ([] ++ M.enc ⟨x0, x1, x2, x3, x4⟩))) := Lib.hid (fun W => wput_any none 0 0 [] ⟨x0, x1, x2, x3, x4⟩ W (nilB _) hxi (by decide))
          rw [h2] at VX
          rw [h4, List.nil_append] at PX
          have hl4 := congrArg List.length h4
          rw [List.length_take, HR.out.len] at hl4
          have t1 : decide ((0 : Int) < (q : Int)) = true := decide_eq_true (by omega)
          have t1' : decide (0 < q) = true := decide_eq_true (by omega)
          have t2 : decide ((q : Int) ≤ (n : Int)) = true := decide_eq_true (by omega)
          have t2' : decide (q ≤ n) = true := decide_eq_true h3
          have hqc : q ≤ c := by omega
          clear hl4 hq hxi h2 h4
          go_wp2_with fail
          have HBD := Lib.hid HB9.out.drew
          have HXD := Lib.hid (HX9.out.below (Below.refl _ _).drew)
          have hsD := HBD.out.size
          go_region_held3 (fun W => W.cell? ⟨w8.heap.size, 0, none⟩ = some (.int .i64 x0) ∧ W.cell? ⟨w8.heap.size, 1, none⟩ = some (.int .i64 x1) ∧ W.cell? ⟨w8.heap.size, 2, none⟩ = some (.int .i64 x2) ∧ W.cell? ⟨w8.heap.size, 3, none⟩ = some (.int .i64 x3) ∧ W.cell? ⟨w8.heap.size, 4, none⟩ = some (.int .i64 x4)) (first | assumption | exact ⟨HX9.out.1, HX9.out.2.1, HX9.out.2.2.1, HX9.out.2.2.2.1, HX9.out.2.2.2.2⟩ | exact ⟨by assumption, by assumption, by assumption, by assumption, by assumption⟩) (first | (go_at_call 10; refine (VX.out _).mono ?_; rintro e wa ⟨rfl, hb⟩; have HBa := Lib.hid (HBD.out.trans (hb.mono hsD)); have hsa := HBa.out.size; have HXa := Lib.hid (HXD.out.below hb); obtain ⟨y0, y1, y2, y3, y4⟩ := HXa.out; dsimp only at y0 y1 y2 y3 y4; clear hb) | (go_at_call 13; refine (PX.out _).mono ?_; rintro e wb ⟨Ab, nb, cb, rfl, ho, hb⟩; have HOb := Lib.hid ho.rd; have HBb := Lib.hid (HBa.out.trans (hb.mono hsa)); have HXb := Lib.hid (HXa.out.below hb); have HRb := Lib.hid ((HR.out.below HBb.out).take q h3); obtain ⟨y0, y1, y2, y3, y4⟩ := HXb.out; dsimp only at y0 y1 y2 y3 y4; clear hb ho) | (go_at_call 12; refine (same_any _ _ _ _ _ _ _ _ _ HOb.out HRb.out).mono ?_; rintro e wc ⟨rfl, ⟨qq, rfl⟩⟩; rw [eqL_self]))
          go_wp2
          go_ret
          exact ⟨rfl, pw_below_drewN HBb.out _⟩
        · dsimp only at h1 h2 h3
          subst h2
          injection h1 with z0 z1 z2 z3 z4
          subst z0 z1 z2 z3 z4
          rcases h3 with rfl | rfl
          · go_wp2
            go_ret
            exact ⟨rfl, HB9.out⟩
          · go_wp2
            go_ret
            exact ⟨rfl, HB9.out⟩
end Go.Proofs.Ytjhoidookoageaa.wirel
