/- The walk of the law WireChains. -/
import Derived.Test.YtjhoidookoageaaWireLaws1
import Derived.Test.YtjhoidookoageaaTakeWalk2
import Derived.Test.YtjhoidookoageaaTakePure2
import Derived.Test.YtjhoidookoageaaWide
set_option linter.unusedVariables false
set_option linter.unusedSimpArgs false
namespace Go.Proofs.Ytjhoidookoageaa.wirel
open Go.RowKit Go.Proofs.YtjhoidookoageaaW.PrintWords Go.Proofs.Ytjhoidookoageaa.base Go.Proofs.Ytjhoidookoageaa.mem Go.Proofs.Ytjhoidookoageaa.packp Go.Proofs.Ytjhoidookoageaa.packw Go.Proofs.Ytjhoidookoageaa.samew Go.Proofs.Ytjhoidookoageaa.wirep Go.Proofs.Ytjhoidookoageaa.wirew Go.Proofs.Ytjhoidookoageaa.takew Go.Proofs.Ytjhoidookoageaa.msgs

set_option maxHeartbeats 2000000 in
set_option maxRecDepth 100000 in
theorem chainsLaw (A : Option Addr) (n c : Nat) (ms : List M) (A' : Option Addr) (n' c' : Nat) (xs : List Int) (w : World) (hr : RdM w A n ms) (hI : ∀ m ∈ ms, m.I) (hc : n ≤ c) (hx : RdB w A' n' xs) (hxc : n' ≤ c') (hxz : n' * 1 ≤ 140737488351232) :
    Calls Try.prog 8 #[.slice A n c, .slice A' n' c'] w fun e w' => e = .returned (.bool true) ∧ Below w.heap.size w w' := by
  have HR := Lib.hid hr
  have HX := Lib.hid hx
  have HI := Lib.hid hI
  have hn0 := hr.2.1
  have hn' : n' ≤ 140737488351232 := by omega
  clear hr hx hI hxz
  go_enter Try.func8, Try.ntmps8
  go_wp2_with fail
  refine (wakes_any _).mono ?_
  rintro e w1 ⟨rfl, hb⟩
  have HB1 := Lib.hid hb
  have hs1 := HB1.out.size
  clear hb
  by_cases hbig : 512 < n
  · go_wp2
    go_ret
    exact ⟨rfl, HB1.out⟩
  go_wp2
  go_loopw [5, 6, 21] (fun b g i wr => ∃ (k : Nat) (A1 : Option Addr) (n1 c1 : Nat) (A2 : Option Addr) (n2 c2 : Nat), k ≤ n ∧ i = .int .i64 k ∧ b = .slice A1 n1 c1 ∧ g = .slice A2 n2 c2 ∧ n1 ≤ 45 * k ∧ n2 ≤ k ∧ Aside0 (OwB wr w.heap.size A1 n1 c1 (encs (ms.take k))) ∧ Aside0 (OwM wr w.heap.size A2 n2 c2 ((ms.take k).filter M.valid)) ∧ Aside0 (Below w.heap.size w wr)) (fun _ _ i _ => n - (intOf i).toNat)
  case atStart => exact ⟨0, none, 0, 0, none, 0, 0, by omega, rfl, rfl, rfl, by omega, by omega, ⟨OwB.nil _ _⟩, ⟨OwM.nil _ _⟩, ⟨HB1.out⟩⟩
  case round =>
    obtain ⟨k, A1, n1, c1, A2, n2, c2, hk, rfl, rfl, rfl, hn1, hn2, HOb, HOg, HBk⟩ := hrel
    by_cases hlt : k < n
    · have HT : Hid (ms.take (k + 1) = ms.take k ++ [ms.getD k nilM]) := Lib.hid (take_snocM ms k (by rw [HR.out.1]; exact hlt))
      have hmI : (ms.getD k nilM).I := HI.out _ (by rw [List.getD_eq_getElem?_getD, List.getElem?_eq_getElem (by rw [HR.out.1]; exact hlt)]; exact List.getElem_mem _)
      obtain ⟨b0, off, rfl, hall⟩ := (HR.out.below HBk.out).2.2 (by omega)
      have hat := hall k hlt
      clear hall
      obtain ⟨q, hq⟩ : ∃ q, ms.getD k nilM = q := ⟨_, rfl⟩
      rw [hq] at HT hmI hat
      clear hq
      have VM := Lib.hid (valid_any q)
      have PM := Lib.hid (fun W A c xs n (h : RdB W A n xs) (hl : n + 45 ≤ 140737488355328) => wput_any A n c xs q W h hmI hl)
      have HEL := enc_short q
      have HEN : Hid (q.valid = false → q.enc = []) := Lib.hid M.enc_none
      obtain ⟨E, hE⟩ : ∃ E, q.enc = E := ⟨_, rfl⟩
      have HE := Lib.hid hE
      rw [hE] at PM HEL HEN
      clear hE
      obtain ⟨mk, mo, md, mu, mv⟩ := q
      obtain ⟨e0, e1, e2, e3, e4⟩ := hat
      dsimp only at e0 e1 e2 e3 e4
      have VM : Hid (∀ W, Calls Try.prog 10 #[.agg #[.int .i64 mk, .int .i64 mo, .int .i64 md, .int .i64 mu, .int .i64 mv]] W fun e w' => e = .returned (.bool (M.valid ⟨mk, mo, md, mu, mv⟩)) ∧ Below W.heap.size W w') := VM
      have PM : Hid (∀ W A c xs n, RdB W A n xs → n + 45 ≤ 140737488355328 → Calls Try.prog 13 #[.slice A n c, .agg #[.int .i64 mk, .int .i64 mo, .int .i64 md, .int .i64 mu, .int .i64 mv]] W (RetB W (xs ++ E))) := PM
      have HX1 := Lib.hid (Box.new wr mk mo md mu mv)
      have HBX := Lib.hid (HBk.out.alloc HBk.out.size (.cells #[.int .i64 mk, .int .i64 mo, .int .i64 md, .int .i64 mu, .int .i64 mv] 24))
      have HObX := Lib.hid (HOb.out.alloc (.cells #[.int .i64 mk, .int .i64 mo, .int .i64 md, .int .i64 mu, .int .i64 mv] 24))
      have HOgX := Lib.hid (HOg.out.below (below_alloc (Below.refl _ _) (.cells #[.int .i64 mk, .int .i64 mo, .int .i64 md, .int .i64 mu, .int .i64 mv] 24)))
      have hsX := HBX.out.size
      have hgb := Lib.hid HOg.out.blk
      go_wp2_with fail
      refine (VM.out _).mono ?_
      rintro e w2 ⟨rfl, hb⟩
      have HB2 := Lib.hid (HBX.out.trans (hb.mono hsX))
      have hs2 := HB2.out.size
      have HX2 := Lib.hid (HX1.out.below hb)
      have HOb2 := Lib.hid (HObX.out.below hb)
      have HOg2 := Lib.hid (HOgX.out.below hb)
      obtain ⟨f0, f1, f2, f3, f4⟩ := HX2.out
      dsimp only at f0 f1 f2 f3 f4
      have hlt0 := World.block_lt_of_cell? _ _ f0
      dsimp only at hlt0
      clear hb
      cases hv : M.valid ⟨mk, mo, md, mu, mv⟩
      · have HF : Hid ((ms.take (k + 1)).filter M.valid = (ms.take k).filter M.valid) := Lib.hid (by rw [HT.out, filter_snoc, hv]; simp)
        go_wp2_with fail
        refine (PM.out _ _ _ _ _ HOb2.out.rd (by omega)).mono ?_
        rintro e w3 ⟨A3, n3, c3, rfl, ho, hb⟩
        have hl3 := ho.len
        have hl1 := HOb2.out.len
        rw [List.length_append, hl1] at hl3
        have hn3 : n3 ≤ 45 * (k + 1) := by omega
        have HO3 : Aside0 (OwB w3 w.heap.size A3 n3 c3 (encs (ms.take (k + 1)))) := ⟨by rw [HT.out, encs_snoc, HE.out]; exact ho.less hs2⟩
        have HG3 : Aside0 (OwM w3 w.heap.size A2 n2 c2 ((ms.take (k + 1)).filter M.valid)) := ⟨by rw [HF.out]; exact HOg2.out.below hb⟩
        have HB3 := Aside0.mk (HB2.out.trans (hb.mono hs2))
        clear ho hb hl3 hl1
        go_wp2
        go_roundw
        case rel => exact ⟨k + 1, A3, n3, c3, A2, n2, c2, by omega, by go_num, rfl, rfl, hn3, by omega, HO3, HG3, HB3⟩
        case measure => simp [intOf]; omega
      · have HF : Hid ((ms.take (k + 1)).filter M.valid = (ms.take k).filter M.valid ++ [⟨mk, mo, md, mu, mv⟩]) := Lib.hid (by rw [HT.out, filter_snoc, hv]; simp)
        go_wp2_with (first | (at_builtin; refine appM (w0 := w) (base := w.heap.size) rfl (.tmp 27) (.tmp 29) rfl ⟨mk, mo, md, mu, mv⟩ rfl rfl HOg2.out HB2.out hs2 ?l4 ?_; (case l4 => omega); intro A4 c4 w4 ho hb hg; have HG4 := Lib.hid ho; have HB4 := Lib.hid hb; have hs4 := hb.size; have HOb4 := Lib.hid (OwB.otherM HOb2.out HOg2.out hg); have HX4 := Lib.hid (boxGrown HX2.out hg hgb.out); obtain ⟨f0, f1, f2, f3, f4⟩ := HX4.out; dsimp only at f0 f1 f2 f3 f4; clear ho hb hg))
        refine (PM.out _ _ _ _ _ HOb4.out.rd (by omega)).mono ?_
        rintro e w3 ⟨A3, n3, c3, rfl, ho, hb⟩
        have hl3 := ho.len
        have hl1 := HOb4.out.len
        rw [List.length_append, hl1] at hl3
        have hn3 : n3 ≤ 45 * (k + 1) := by omega
        have HO3 : Aside0 (OwB w3 w.heap.size A3 n3 c3 (encs (ms.take (k + 1)))) := ⟨by rw [HT.out, encs_snoc, HE.out]; exact ho.less hs4⟩
        have HG3 : Aside0 (OwM w3 w.heap.size A4 (n2 + 1) c4 ((ms.take (k + 1)).filter M.valid)) := ⟨by rw [HF.out]; exact HG4.out.below hb⟩
        have HB3 := Aside0.mk (HB4.out.trans (hb.mono hs4))
        clear ho hb hl3 hl1
        go_wp2
        go_roundw
        case rel => exact ⟨k + 1, A3, n3, c3, A4, n2 + 1, c4, by omega, by go_num, rfl, rfl, hn3, by omega, HO3, HG3, HB3⟩
        case measure => simp [intOf]; omega
    · have hkn : k = n := by omega
      subst hkn
      have eT : ms.take k = ms := List.take_of_length_le (Nat.le_of_eq HR.out.1)
      have HOb := HOb
      have HOg := HOg
      rw [eT] at HOb HOg
      have HGe := Lib.hid (encs_good ms)
      have HGv : Hid (∀ m ∈ ms.filter M.valid, m.valid = true) := Lib.hid fun m hm => (List.mem_filter.1 hm).2
      rw [← HGe.out] at HOb
      clear HGe eT HI HR
      generalize ms.filter M.valid = gs at HOb HOg HGv
      have HXk := Lib.hid (HX.out.below HBk.out)
      have hsk := HBk.out.size
      go_wp2_with (first | (at_builtin; refine appWide (w0 := w) (base := w.heap.size) rfl (.tmp 35) (.tmp 36) rfl rfl rfl HOb.out HXk.out HBk.out hsk ?l5 ?l6 ?_; (case l5 => omega); (case l6 => omega); intro A5 n5 c5 w5 ho hb hg; have HM5 := Lib.hid (OwM.otherB HOg.out HOb.out hg).rd; have hc5 := ho.cap; have HR5 := Lib.hid ho.rd; have HB5 := Lib.hid hb; clear ho hb hg))
      clear HOb HOg HXk HBk hsk
      go_loopw [5, 40] (fun b i wr2 => ∃ (j : Nat) (A1 : Option Addr) (n1 c1 : Nat), j ≤ n2 ∧ i = .int .i64 j ∧ b = .slice A1 n1 c1 ∧ n1 ≤ c1 ∧ Aside0 (RdB wr2 A1 n1 (encs (gs.drop j) ++ xs)) ∧ Aside0 (RdM wr2 A2 n2 gs) ∧ Aside0 (Below w.heap.size w wr2)) (fun _ i _ => n2 - (intOf i).toNat)
      case atStart => exact ⟨0, A5, n5, c5, by omega, rfl, rfl, hc5, ⟨HR5.out⟩, ⟨HM5.out⟩, ⟨HB5.out⟩⟩
      case round =>
        obtain ⟨j, A6, n6, c6, hj, rfl, rfl, hc6, HR6, HM6, HB6⟩ := hrel
        by_cases hlt2 : j < n2
        · have hlg : j < gs.length := by rw [HM6.out.1]; exact hlt2
          have HD : Hid (gs.drop j = gs.getD j nilM :: gs.drop (j + 1)) := Lib.hid (drop_consM gs j hlg)
          have hmv : (gs.getD j nilM).valid = true := HGv.out _ (by rw [List.getD_eq_getElem?_getD, List.getElem?_eq_getElem hlg]; exact List.getElem_mem _)
          obtain ⟨b0, off, e0, hall⟩ := HM6.out.2.2 (by omega)
          have hat := hall j hlt2
          clear hall
          subst e0
          have HR7 := HR6.out
          rw [HD.out, encs_cons, List.append_assoc] at HR7
          have hT7 := take_back hmv (encs (gs.drop (j + 1)) ++ xs)
          have hq := M.enc_len hmv
          have hl7 := HR7.len
          rw [List.length_append] at hl7
          obtain ⟨q, hqe⟩ : ∃ q, gs.getD j nilM = q := ⟨_, rfl⟩
          rw [hqe] at HR7 hT7 hq hat hl7
          clear hqe HD hmv hlg
          obtain ⟨R, hRe⟩ : ∃ R, encs (gs.drop (j + 1)) ++ xs = R := ⟨_, rfl⟩
          rw [hRe] at HR7 hT7 hl7
          have HRe := Lib.hid hRe
          clear hRe
          have HT := Lib.hid (fun W (h : RdB W A6 n6 (q.enc ++ R)) => wtake_any A6 n6 c6 (q.enc ++ R) W h hc6)
          rw [hT7] at HT
          clear hT7
          generalize q.enc = E at HT HR7 hq hl7
          have HR7 := Lib.hid HR7
          have hq1 : 1 ≤ E.length := by omega
          have hq6 : E.length ≤ n6 := by omega
          clear hq hl7
          obtain ⟨mk, mo, md, mu, mv⟩ := q
          have HT : Hid (∀ W, RdB W A6 n6 (E ++ R) → Calls Try.prog 15 #[.slice A6 n6 c6] W fun e w' => e = .returned (.tuple #[.agg #[.int .i64 mk, .int .i64 mo, .int .i64 md, .int .i64 mu, .int .i64 mv], .int .i64 (E.length : Nat), .int .i64 0]) ∧ Below W.heap.size W w') := HT
          obtain ⟨e0, e1, e2, e3, e4⟩ := hat
          dsimp only at e0 e1 e2 e3 e4
          have HX1 := Lib.hid (Box.new wr mk mo md mu mv)
          have HBX := Lib.hid (HB6.out.alloc HB6.out.size (.cells #[.int .i64 mk, .int .i64 mo, .int .i64 md, .int .i64 mu, .int .i64 mv] 24))
          have BA := Lib.hid (below_alloc (Below.refl wr.heap.size wr) (.cells #[.int .i64 mk, .int .i64 mo, .int .i64 md, .int .i64 mu, .int .i64 mv] 24))
          have hsX := HBX.out.size
          obtain ⟨A7, n7, c7, hcut, hm1, hm2, hm3, hrd⟩ := cutL A6 n6 c6 E.length hq6 hc6
          go_wp2_with fail
          refine (HT.out _ (HR7.out.below BA.out)).mono ?_
          rintro e w2 ⟨rfl, hb⟩
          have HX2 := Lib.hid (HX1.out.below hb)
          have HB2 := Lib.hid (HBX.out.trans (hb.mono hsX))
          have B2 := Lib.hid (BA.out.trans (hb.mono BA.out.size))
          have hs2 := HB2.out.size
          obtain ⟨f0, f1, f2, f3, f4⟩ := HX2.out
          dsimp only at f0 f1 f2 f3 f4
          have hlt0 := World.block_lt_of_cell? _ _ f0
          dsimp only at hlt0
          have HB3 := Aside0.mk (HB2.out.alloc hs2 (.cells #[.int .i64 mk, .int .i64 mo, .int .i64 md, .int .i64 mu, .int .i64 mv] 24))
          have B3 := Lib.hid (B2.out.alloc B2.out.size (.cells #[.int .i64 mk, .int .i64 mo, .int .i64 md, .int .i64 mu, .int .i64 mv] 24))
          have HM3 := Aside0.mk (HM6.out.below B3.out)
          have HR3 := hrd _ _ (HR7.out.below B3.out)
          rw [List.drop_left, ← HRe.out] at HR3
          have HR3 := Aside0.mk HR3
          clear hb hrd
          go_wp2
          go_roundw
          case rel => exact ⟨j + 1, A7, n7, c7, by omega, by go_num, rfl, hm3, HR3, HM3, HB3⟩
          case measure => simp [intOf]; omega
        · have hjn : j = n2 := by omega
          subst hjn
          have HR7 := HR6.out
          rw [List.drop_of_length_le (Nat.le_of_eq HM6.out.1), encs_nil, List.nil_append] at HR7
          have HR7 := Lib.hid HR7
          have HX7 := Lib.hid (HX.out.below HB6.out)
          have HB7 := HB6
          go_wp2_with fail
          refine (same_any _ _ _ _ _ _ _ _ _ HR7.out HX7.out).mono ?_
          rintro e w8 ⟨rfl, ⟨q2, rfl⟩⟩
          rw [eqL_self]
          go_wp2
          go_ret
          exact ⟨rfl, pw_below_drewN HB7.out _⟩
end Go.Proofs.Ytjhoidookoageaa.wirel
