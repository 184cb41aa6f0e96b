/- What the reference's First and All compute. -/
import Derived.Test.YtjebmlfcdnpepaaDoorFrameAll
set_option linter.unusedVariables false
set_option linter.unusedSimpArgs false
namespace Go.Proofs.YtjebmlfcdnpepaaDoor.framer
open Go.RowKit Go.Proofs.YtjebmlfcdnpepaaDoorW.PrintWords Go.Proofs.YtjebmlfcdnpepaaDoor.base Go.Proofs.YtjebmlfcdnpepaaDoor.mem Go.Proofs.YtjebmlfcdnpepaaDoor.crcp Go.Proofs.YtjebmlfcdnpepaaDoor.crcw Go.Proofs.YtjebmlfcdnpepaaDoor.samew Go.Proofs.YtjebmlfcdnpepaaDoor.keep Go.Proofs.YtjebmlfcdnpepaaDoor.framep Go.Proofs.YtjebmlfcdnpepaaDoor.framew Go.Proofs.YtjebmlfcdnpepaaDoor.frameit Go.Proofs.YtjebmlfcdnpepaaDoor.framem Go.Proofs.YtjebmlfcdnpepaaDoor.framel Go.Proofs.YtjebmlfcdnpepaaDoor.framea

theorem le4_w4 {xs : List Int} (h : By xs) (h4 : 4 ≤ xs.length) : le4 (w4 xs) = xs.take 4 := by
  obtain ⟨a, b, c, d, r, rfl⟩ : ∃ a b c d r, xs = a :: b :: c :: d :: r := by
    match xs, h4 with
    | a :: b :: c :: d :: r, _ => exact ⟨a, b, c, d, r, rfl⟩
  have ha := h.mem a (by simp)
  have hb := h.mem b (by simp)
  have hc := h.mem c (by simp)
  have hd := h.mem d (by simp)
  simp only [le4, w4, List.getD_cons_zero, List.getD_cons_succ, List.take_succ_cons, List.take_zero]
  refine List.cons_eq_cons.2 ⟨by omega, List.cons_eq_cons.2 ⟨by omega, List.cons_eq_cons.2 ⟨by omega, List.cons_eq_cons.2 ⟨by omega, rfl⟩⟩⟩⟩
theorem first_iff {xs pl : List Int} (h : By xs) (h8 : 8 ≤ xs.length) (hp : (pl.length : Int) = w4 xs) : (fenc pl).take 8 = xs.take 8 ↔ parts 0 [xs.take 4, pl] = w4 (xs.drop 4) := by
  have e1 : (fenc pl).take 8 = le4 (w4 xs) ++ le4 (parts 0 [le4 (w4 xs), pl]) := by
    unfold fenc
    rw [hp]
    rfl
  have e2 : xs.take 8 = xs.take 4 ++ (xs.drop 4).take 4 := by rw [show (8 : Nat) = 4 + 4 from rfl, List.take_add]
  rw [e1, e2, le4_w4 h (by omega), ← le4_w4 (h.drop 4) (by rw [List.length_drop]; omega)]
  constructor
  · intro e
    have e3 := List.append_cancel_left e
    have e4 := congrArg (fun l => w4 (l ++ [])) e3
    rwa [w4_le4 (U32_parts 0 ⟨by decide, by decide⟩ _), w4_le4 (w4_range (h.drop 4))] at e4
  · intro e
    rw [e]
/-- the first loop's number: of four bytes the last ones, the last first -/
def hz (xs : List Int) : Nat → Int
  | 0 => 0
  | j + 1 => hz xs j * 256 + xs.getD (3 - j) 0
theorem hz_bound {xs : List Int} (h : By xs) (j : Nat) (hj : j ≤ 4) : 0 ≤ hz xs j ∧ hz xs j ≤ 4294967295 := by
  have h0 := By.getD h 0
  have h1 := By.getD h 1
  have h2 := By.getD h 2
  have h3 := By.getD h 3
  match j, hj with
  | 0, _ => simp [hz]
  | 1, _ => simp only [hz, Nat.reduceSub, Nat.sub_self, Nat.sub_zero]; omega
  | 2, _ => simp only [hz, Nat.reduceSub, Nat.sub_self, Nat.sub_zero]; omega
  | 3, _ => simp only [hz, Nat.reduceSub, Nat.sub_self, Nat.sub_zero]; omega
  | 4, _ => simp only [hz, Nat.reduceSub, Nat.sub_self, Nat.sub_zero]; omega
theorem hz_all (xs : List Int) : hz xs 4 = w4 xs := by simp only [hz, w4, Nat.reduceSub, Nat.sub_self, Nat.sub_zero]; omega
def RetFirst (w : World) (xs : List Int) (e : Ending) (w' : World) : Prop := ∃ A n c, e = .returned (.tuple #[.slice A n c, .int .i64 (firstN xs : Nat)]) ∧ OwB w' w.heap.size A n c ((xs.drop 8).take (firstN xs - 8)) ∧ Below w.heap.size w w'
set_option maxHeartbeats 1000000 in
theorem reffirst_any (A : Option Addr) (n c : Nat) (xs : List Int) (w : World) (hr : RdB w A n xs) (hc : n ≤ c) :
    Calls Tryd.prog 22 #[.slice A n c] w (RetFirst w xs) := by
  have HR := Lib.hid hr
  have hlen := hr.len
  have hmax := hr.max
  clear hr
  by_cases h8 : n < 8
  · have HF : Hid (firstN xs = 0) := Lib.hid (by unfold firstN; rw [if_pos (by omega)])
    go_enter Tryd.func22, Tryd.ntmps22
    go_wp2
    refine bodyPost_ret (results_tmp2 rfl _ _ _) rfl ?_
    refine ⟨none, 0, 0, by rw [HF.out]; rfl, by rw [HF.out]; exact OwB.nil _ _, Below.refl _ _⟩
  go_enter Tryd.func22, Tryd.ntmps22
  go_wp2
  go_loop [4, 5] (fun r i => ∃ v : Int, r = .int .i64 v ∧ 0 ≤ v ∧ v ≤ 4294967295 ∧ ((∃ k : Nat, k ≤ 3 ∧ i = .int .i64 k ∧ Aside0 (v = hz xs (3 - k))) ∨ (i = .int .i64 (-1) ∧ Aside0 (v = w4 xs)))) (fun _ i => (intOf i + 1).toNat)
  case atStart => exact ⟨0, rfl, by omega, by omega, .inl ⟨3, by omega, rfl, ⟨rfl⟩⟩⟩
  case round =>
    obtain ⟨v, rfl, hv0, hv1, ⟨k, hk, rfl, HV⟩ | ⟨rfl, HV⟩⟩ := hrel
    · obtain ⟨ad, rfl, hcell⟩ := HR.out.at_ k (by omega)
      have hbd := By.getD HR.out.2 k
      have HB := Lib.hid (hz_bound HR.out.2 (3 - k + 1) (by omega))
      have HS : Hid (hz xs (3 - k + 1) = hz xs (3 - k) * 256 + xs.getD k 0) := Lib.hid (by show _ * 256 + xs.getD (3 - (3 - k)) 0 = _; rw [show 3 - (3 - k) = k from by omega])
      generalize xs.getD k 0 = b at hcell hbd HS
      have hkn : k < n := by omega
      have hvb : 0 ≤ v * 256 + b ∧ v * 256 + b ≤ 4294967295 := by have h1 := HB.out; rw [HS.out, ← HV.out] at h1; exact h1
      go_wp2
      go_round
      case rel =>
        refine ⟨v * 256 + b, rfl, hvb.1, hvb.2, ?_⟩
        rcases Nat.eq_zero_or_pos k with h0 | h0
        · subst h0
          exact .inr ⟨by go_num, ⟨by rw [← hz_all, show (4 : Nat) = 3 - 0 + 1 from rfl, HS.out, ← HV.out]⟩⟩
        · exact .inl ⟨k - 1, by omega, by go_num, ⟨by rw [show 3 - (k - 1) = 3 - k + 1 from by omega, HS.out, ← HV.out]⟩⟩
      case measure => first | (simp [intOf]; done) | (simp [intOf]; omega)
    · have hV := HV.out
      obtain ⟨u, rfl⟩ := Int.eq_ofNat_of_zero_le hv0
      have HFdef : Hid (firstN xs = if 1048576 < u ∨ n - 8 < u ∨ parts 0 [xs.take 4, (xs.drop 8).take u] ≠ w4 (xs.drop 4) then 0 else 8 + u) := Lib.hid (by unfold firstN; rw [if_neg (by omega), ← hV, hlen]; rfl)
      have HV := Lib.hid hV
      clear hV hlen
      by_cases hbig : 1048576 < u
      · have HF : Hid (firstN xs = 0) := Lib.hid (by rw [HFdef.out, if_pos (.inl hbig)])
        have hb : decide ((1048576 : Int) < (u : Int)) = true := decide_eq_true (by omega)
        go_wp2
        refine bodyPost_ret (results_tmp2 rfl _ _ _) rfl ?_
        refine ⟨none, 0, 0, by rw [HF.out]; rfl, by rw [HF.out]; exact OwB.nil _ _, Below.refl _ _⟩
      by_cases hlong : n - 8 < u
      · have HF : Hid (firstN xs = 0) := Lib.hid (by rw [HFdef.out, if_pos (.inr (.inl hlong))])
        have hb : decide ((1048576 : Int) < (u : Int)) = false := decide_eq_false (by omega)
        have hb2 : decide (((n : Int) - 8) < (u : Int)) = true := decide_eq_true (by omega)
        go_wp2
        refine bodyPost_ret (results_tmp2 rfl _ _ _) rfl ?_
        refine ⟨none, 0, 0, by rw [HF.out]; rfl, by rw [HF.out]; exact OwB.nil _ _, Below.refl _ _⟩
      have hb : decide ((1048576 : Int) < (u : Int)) = false := decide_eq_false (by omega)
      have hb2 : decide (((n : Int) - 8) < (u : Int)) = false := decide_eq_false (by omega)
      obtain ⟨A8, n8, c8, hcut8, a1, a2, a3, hrd8⟩ := cutLH A n c 8 (8 + u) (by omega) (by omega) hc
      have e8 : ((8 + u : Nat) : Int) = 8 + (u : Int) := by omega
      have hcut8 : ∀ W : World, (Instr.slice 22 (.slice A n c) (some (.int .i64 8)) (some (.int .i64 (8 + (u : Int)))) none).run Tryd.prog W = .ok (.slice A8 n8 c8) W := fun W => by have := hcut8 W; rw [e8] at this; exact this
      obtain rfl : n8 = u := by omega
      have HRD := Lib.hid (fun W (h : RdB W A n xs) => by
        have h1 := hrd8 W xs h
        rw [show (xs.take (8 + n8)).drop 8 = (xs.drop 8).take n8 from by rw [List.drop_take]; congr 1; omega] at h1
        exact h1)
      have B0 := Lib.hid (Below.refl w.heap.size w)
      have HP : Hid (((xs.drop 8).take n8).length = n8) := Lib.hid (by rw [List.length_take, List.length_drop, HR.out.len]; omega)
      clear e8 hrd8
      go_wp2_with (first | (at_builtin; refine app (w0 := w) (base := w.heap.size) rfl (.tmp 34) (.tmp 38) rfl rfl rfl (OwB.lit0 _ _ (Nat.le_refl _)) (HRD.out _ (HR.out.below (below_alloc (Below.refl _ _) _))) (B0.out.alloc (Nat.le_refl _) _) ?s5 ?l5 ?_; (case s5 => simp); (case l5 => omega); intro A5 n5 c5 w5 ho hb; have HO5 := Lib.hid ho; have B5 := Lib.hid hb; have hl5 : _ = n5 := ho.len; rw [List.nil_append, HP.out] at hl5; subst hl5; have hs5 := hb.size; clear ho hb))
      rw [List.nil_append] at HO5
      generalize hpl : (xs.drop 8).take n8 = pl at HO5 HP
      have hlp := HP.out
      have hdu : decide (n8 ≤ 1048576) = true := decide_eq_true (by omega)
      have HEn := Lib.hid (refencode_any _ _ _ pl _ HO5.out.rd HO5.out.cap)
      rw [hdu] at HEn
      have HI := Lib.hid (first_iff (pl := pl) HR.out.2 (by rw [HR.out.len]; omega) (by rw [hlp]; exact HV.out))
      have HL := Lib.hid (fenc_len pl)
      rw [hlp] at HL
      have HFd : Hid (firstN xs = if (fenc pl).take 8 = xs.take 8 then 8 + n8 else 0) := Lib.hid (by
        rw [HFdef.out, hpl]
        by_cases he : (fenc pl).take 8 = xs.take 8
        · rw [if_pos he, if_neg]
          rintro (h | h | h)
          · exact hbig h
          · exact hlong h
          · exact h (HI.out.1 he)
        · rw [if_neg he, if_pos (.inr (.inr fun h => he (HI.out.2 h)))])
      have HPL := Lib.hid hpl
      clear hpl hlp hdu HFdef HI HV HP HRD hcut8 a1 a2
      generalize fenc pl = E at HEn HL HFd
      refine HEn.out.mono ?_
      rintro e w6 ⟨A6, n6, c6, rfl, ho, hb6⟩
      rw [if_pos rfl] at ho
      have hn6 := ho.len
      rw [HL.out] at hn6
      subst hn6
      have HO6 := Lib.hid ho.rd
      have HO56 := Lib.hid (HO5.out.below hb6)
      have B6 := Lib.hid (B5.out.trans (hb6.mono hs5))
      have HR6 := Lib.hid (HR.out.below B6.out)
      clear ho hb6
      go_wp2
      go_loopw [9] (fun i wr => ∃ j : Nat, j ≤ 8 ∧ i = .int .i64 j ∧ Aside0 (E.take j = xs.take j) ∧ Drawn0 w6 wr) (fun i _ => 8 - (intOf i).toNat)
      case atStart => exact ⟨0, by omega, rfl, ⟨rfl⟩, Drawn0.refl _⟩
      case round =>
        obtain ⟨j, hj, rfl, HE, HD⟩ := hrel
        by_cases hlt : j < 8
        · obtain ⟨ad, rfl, hcx⟩ := (drawn_rd HD HR6.out).at_ j (by omega)
          obtain ⟨ad', rfl, hcy⟩ := (drawn_rd HD HO6.out).at_ j (by omega)
          have hjn : j < n := by omega
          have hjm : j < 8 + n8 := by omega
          by_cases hne : E.getD j 0 = xs.getD j 0
          · have h2 : E.take (j + 1) = xs.take (j + 1) := by rw [take_snoc E j (by rw [HL.out]; omega), take_snoc xs j (by rw [HR.out.len]; omega), HE.out, hne]
            rw [hne] at hcy
            generalize xs.getD j 0 = x at hcx hcy
            have H2 := Aside0.mk h2
            clear h2 hne
            go_wp2
            go_quiet (fail)
            go_wp2
            go_roundw
            case rel => exact ⟨j + 1, by omega, by go_num, H2, HD.step _⟩
            case measure => simp [intOf]; omega
          · have HF : Hid (firstN xs = 0) := Lib.hid (by
              rw [HFd.out, if_neg]
              intro h
              have h1 := congrArg (fun l => l.getD j 0) h
              simp only [List.getD_eq_getElem?_getD, List.getElem?_take, if_pos hlt] at h1 hne
              exact hne h1)
            have hb : (E.getD j 0 != xs.getD j 0) = true := by simpa using hne
            generalize xs.getD j 0 = x at hcx hb
            generalize E.getD j 0 = y at hcy hb
            clear hne
            go_wp2
            go_quiet (fail)
            go_wp2
            refine bodyPost_ret (results_tmp2 rfl _ _ _) rfl ?_
            refine ⟨none, 0, 0, by rw [HF.out]; rfl, by rw [HF.out]; exact OwB.nil _ _, ?_⟩
            obtain ⟨q, rfl⟩ := HD
            exact pw_below_drewN (pw_below_drewN B6.out _) _
        · obtain rfl : j = 8 := by omega
          have HF : Hid (firstN xs = 8 + n8) := Lib.hid (by rw [HFd.out, if_pos HE.out])
          go_wp2
          refine bodyPost_ret (results_tmp2 rfl _ _ _) rfl ?_
          obtain ⟨q, rfl⟩ := HD
          refine ⟨A5, n8, c5, by rw [HF.out]; exact congrArg (fun t => Ending.returned (.tuple #[.slice A5 n8 c5, .int .i64 t])) (by omega), ?_, pw_below_drewN B6.out _⟩
          rw [HF.out, show 8 + n8 - 8 = n8 from by omega, HPL.out]
          exact HO56.out.drawn q
theorem endL_snoc (pre : List (Nat × Nat)) (x : Nat × Nat) : endL (pre ++ [x]) = x.1 + 8 + x.2 := by simp [endL]
set_option maxHeartbeats 1000000 in
theorem refall_any (A : Option Addr) (n c : Nat) (xs : List Int) (w : World) (hr : RdB w A n xs) (hc : n ≤ c) (hn : n ≤ 1048576) :
    Calls Tryd.prog 13 #[.slice A n c] w fun e w' => ∃ A1 n1 c1 cells, e = .returned (.tuple #[.slice A1 n1 c1, .int .i64 (endL (flist xs) : Nat)]) ∧ OwV w' w.heap.size A1 n1 c1 cells ∧ Rws w' w.heap.size cells (pays xs) ∧ Below w.heap.size w w' := by
  have HR := Lib.hid hr
  have hlen := hr.len
  have hfl := flist_len xs
  rw [hlen] at hfl
  have B0 := Lib.hid (Below.refl w.heap.size w)
  clear hr
  go_enter Tryd.func13, Tryd.ntmps13
  go_wp2
  go_loopw [4, 5] (fun r i wr => ∃ (p f : Nat) (pre : List (Nat × Nat)) (A1 : Option Addr) (n1 c1 : Nat) (cells : List Value), r = .slice A1 n1 c1 ∧ i = .int .i64 p ∧ p ≤ n ∧ n - p ≤ f ∧ pre.length = n1 ∧ Aside0 (pre ++ fitems f p (xs.drop p) = flist xs) ∧ Aside0 (p = endL pre) ∧ Aside0 (OwV wr w.heap.size A1 n1 c1 cells) ∧ Aside0 (Rws wr w.heap.size cells (pre.map (payK xs))) ∧ Aside0 (Below w.heap.size w wr)) (fun _ i _ => n - (intOf i).toNat)
  case atStart => exact ⟨0, n, [], none, 0, 0, [], rfl, rfl, by omega, by omega, rfl, ⟨by rw [← hlen]; rfl⟩, ⟨rfl⟩, ⟨OwV.nil _ _⟩, ⟨Rws.nil _ _⟩, ⟨B0.out⟩⟩
  case round =>
    obtain ⟨p, f, pre, A1, n1, c1, cells, rfl, rfl, hp, hf, hpn, HE, HP, HO, HRw, HB⟩ := hrel
    obtain ⟨A2, n2, c2, hcut, m1, m2, m3, hrd⟩ := cutL A n c p hp hc
    have HF := Lib.hid (reffirst_any A2 n2 c2 (xs.drop p) wr (hrd _ _ (HR.out.below HB.out)) m3)
    have hd := firstN_le (xs.drop p)
    have hg := firstN_ge (xs.drop p)
    rw [List.length_drop, hlen] at hd
    have hsz := HB.out.size
    clear hrd
    unfold RetFirst at HF
    by_cases h0 : firstN (xs.drop p) = 0
    · have hE := HE.out
      rw [fitems_end _ _ _ h0, List.append_nil] at hE
      have HEE := Lib.hid hE
      rw [h0] at HF
      clear hE h0 hd hg HE
      go_wp2_with fail
      refine HF.out.mono ?_
      rintro e w3 ⟨A3, n3, c3, rfl, ho, hb⟩
      have HB3 := Lib.hid (HB.out.trans (hb.mono hsz))
      have HO3 := Lib.hid (HO.out.below hb)
      have HR3 := Lib.hid (HRw.out.map fun a m c ys h => h.below hb)
      clear ho hb
      go_wp2
      refine bodyPost_ret (results_tmp2 rfl _ _ _) rfl ?_
      exact ⟨A1, n1, c1, cells, by rw [← HEE.out, ← HP.out]; rfl, HO3.out, by unfold pays; rw [← HEE.out]; exact HR3.out, HB3.out⟩
    · have hg8 := hg h0
      obtain ⟨f', rfl⟩ : ∃ f', f = f' + 1 := ⟨f - 1, by omega⟩
      have hE := HE.out
      rw [fitems_next _ _ _ h0, List.drop_drop] at hE
      have hpay : ((xs.drop p).drop 8).take (firstN (xs.drop p) - 8) = payK xs (p, firstN (xs.drop p) - 8) := by rw [List.drop_drop]; rfl
      rw [hpay] at HF
      generalize firstN (xs.drop p) = k at HF hd hg8 h0 hE
      have hlt : pre.length < (flist xs).length := by rw [← hE]; simp
      have HEE := Lib.hid hE
      have hkb : ((k : Int) == 0) = false := beq_eq_false_iff_ne.2 (by omega)
      clear hE hg hpay HE
      go_wp2_with fail
      refine HF.out.mono ?_
      rintro e w3 ⟨A3, n3, c3, rfl, ho, hb⟩
      have HB3 := Lib.hid (HB.out.trans (hb.mono hsz))
      have hs3 := HB3.out.size
      have HO3 := Lib.hid (HO.out.below hb)
      have HR3 := Lib.hid (HRw.out.snoc (HRw.out.map fun a m c ys h => h.below hb) (Nat.le_refl _) hsz ho)
      clear ho hb
      go_wp2_with (at_builtin; refine appV (w0 := w) (base := w.heap.size) rfl (.tmp 19) (.tmp 21) rfl rfl rfl HO3.out HB3.out hs3 (by omega) ?_; intro A4 n4 c4 w4 ho4 hb4 hg4; have hn4 := ho4.len; have HO4 := Lib.hid ho4; have HB4 := Lib.hid hb4; have HR4 := Lib.hid (HR3.out.map fun a m c ys h => OwB.keptT h hg4 (OwV.row HO3.out)); clear ho4 hb4 hg4)
      go_roundw
      case rel => exact ⟨p + k, f', pre ++ [(p, k - 8)], A4, n4, c4, _, rfl, by go_num, by omega, by omega, by rw [← hn4, List.length_append, List.length_append, HO3.out.len, hpn]; rfl, ⟨by rw [← HEE.out]; simp⟩, ⟨by rw [endL_snoc]; show p + k = p + 8 + (k - 8); omega⟩, ⟨HO4.out⟩, ⟨by rw [List.map_append]; exact HR4.out⟩, ⟨HB4.out⟩⟩
      case measure => simp [intOf]; omega
end Go.Proofs.YtjebmlfcdnpepaaDoor.framer
