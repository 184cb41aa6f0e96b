/- What gram.Encode and the reference's Encode compute. -/
import Derived.Test.YtobkcedmjeidfaaDoorGramWalk3
import Derived.Test.YtobkcedmjeidfaaDoorCrcWalk
set_option linter.unusedVariables false
set_option linter.unusedSimpArgs false
namespace Go.Proofs.YtobkcedmjeidfaaDoor.gramw
open Go.RowKit Go.Proofs.YtobkcedmjeidfaaDoorW.PrintWords Go.Proofs.YtobkcedmjeidfaaDoor.base Go.Proofs.YtobkcedmjeidfaaDoor.mem Go.Proofs.YtobkcedmjeidfaaDoor.packp Go.Proofs.YtobkcedmjeidfaaDoor.packw Go.Proofs.YtobkcedmjeidfaaDoor.samew Go.Proofs.YtobkcedmjeidfaaDoor.wirep Go.Proofs.YtobkcedmjeidfaaDoor.wirew Go.Proofs.YtobkcedmjeidfaaDoor.gramp Go.Proofs.YtobkcedmjeidfaaDoor.crcp Go.Proofs.YtobkcedmjeidfaaDoor.crcw

/-- a word's four bytes, the lowest first -/
def le4 (S : Int) : List Int := [S % 256, S / 256 % 256, S / 65536 % 256, S / 16777216]
theorem By_le4 {S : Int} (h : U32 S) : By (le4 S) := By_of _ fun z hz => by
  obtain ⟨h0, h1⟩ := h
  simp [le4] at hz
  omega
/-- a datagram's bytes with their sum -/
def full (E : List Int) : List Int := E ++ le4 (add 0 E)
def RetE (w : World) (v : Bool) (E : List Int) (e : Ending) (w' : World) : Prop := ∃ A n c, e = .returned (.tuple #[.slice A n c, .int .i64 (if v then 0 else 1)]) ∧ OwB w' w.heap.size A n c (if v then full E else []) ∧ Below w.heap.size w w'
set_option maxHeartbeats 1000000 in
theorem gencode_any (g : G) (w : World) (hg : g.I) (ht : Table w) :
    Calls Tryd.prog 10 #[g.agg] w (RetE w g.valid g.enc) := by
  have HT := Lib.hid ht
  have HV := Lib.hid (gvalid_any g)
  have HP := Lib.hid (fun W => gput_any none 0 0 [] g W (nilB _) hg (by decide))
  have hE := G.enc_len hg
  generalize g.valid = vv at HV ⊢
  generalize g.enc = EE at HP hE ⊢
  obtain ⟨f, t, a, s, k, o, d, u, v⟩ := g
  have HV : Hid (∀ W, Calls Tryd.prog 12 #[.agg #[.int .i64 f, .int .i64 t, .int .i64 a, .int .i64 s, .int .i64 k, .int .i64 o, .int .i64 d, .int .i64 u, .int .i64 v]] W fun e w' => e = .returned (.bool vv) ∧ Below W.heap.size W w') := HV
  have HP : Hid (∀ W, Calls Tryd.prog 15 #[.slice none 0 0, .agg #[.int .i64 f, .int .i64 t, .int .i64 a, .int .i64 s, .int .i64 k, .int .i64 o, .int .i64 d, .int .i64 u, .int .i64 v]] W (RetB W ([] ++ EE))) := HP
  show Calls Tryd.prog 10 #[.agg #[.int .i64 f, .int .i64 t, .int .i64 a, .int .i64 s, .int .i64 k, .int .i64 o, .int .i64 d, .int .i64 u, .int .i64 v]] w _
  have HBX := Lib.hid (GBox.new w f t a s k o d u v)
  have B1 := Lib.hid (below_alloc (Below.refl w.heap.size w) (.cells #[.int .i64 f, .int .i64 t, .int .i64 a, .int .i64 s, .int .i64 k, .int .i64 o, .int .i64 d, .int .i64 u, .int .i64 v] 26))
  have hs1 := B1.out.size
  clear ht hg
  go_enter Tryd.func10, Tryd.ntmps10
  go_wp2_with fail
  refine (HV.out _).mono ?_
  rintro e w2 ⟨rfl, hb⟩
  have B2 := Lib.hid (B1.out.trans (hb.mono hs1))
  have hs2 := B2.out.size
  have HBX2 := Lib.hid (HBX.out.below hb)
  obtain ⟨⟨e0, e1, e2, e3⟩, e4, e5, e6, e7, e8⟩ := HBX2.out
  dsimp only at e0 e1 e2 e3 e4 e5 e6 e7 e8
  clear hb
  cases vv
  · go_wp2
    refine bodyPost_ret (results_tmp2 rfl _ _ _) rfl ?_
    exact ⟨none, 0, 0, rfl, OwB.nil _ _, B2.out⟩
  · go_wp2_with fail
    refine (HP.out _).mono ?_
    rintro e w3 ⟨A3, n3, c3, rfl, ho, hb⟩
    rw [List.nil_append] at ho
    have hn3 := ho.len
    have HO3 := Lib.hid (ho.less hs2)
    have B3 := Lib.hid (B2.out.trans (hb.mono hs2))
    have HT3 := Lib.hid (HT.out.below B3.out)
    have hU := U32_add 0 EE
    clear ho hb
    go_wp2_with fail
    refine (sum_any _ _ _ EE _ HO3.out.rd HT3.out).mono ?_
    rintro e w4 ⟨rfl, rfl⟩
    have hF : Hid (full EE = EE ++ le4 (add 0 EE)) := Lib.hid rfl
    generalize add 0 EE = S at hU hF
    have hU0 := hU.1
    have hU1 := hU.2
    have HBy := Lib.hid (By_le4 hU)
    have hs3 := B3.out.size
    clear hU
    go_wp2_with (first | (at_builtin; refine app (w0 := w) (base := w.heap.size) rfl (.tmp 13) (.tmp 25) rfl rfl rfl (HO3.out.alloc _) (litB w3 (0, 0) (le4 S) (Nat.le_of_ble_eq_true rfl) HBy.out) (B3.out.alloc hs3 _) ?s5 ?l5 ?_; (case s5 => simp; omega); (case l5 => omega); intro A5 n5 c5 w5 ho hb; have HO5 := Lib.hid ho; have B5 := Lib.hid hb; clear ho hb))
    refine bodyPost_ret (results_tmp2 rfl _ _ _) rfl ?_
    exact ⟨A5, n5, c5, rfl, by rw [if_pos rfl, hF.out]; exact HO5.out, B5.out⟩
set_option maxHeartbeats 1000000 in
theorem refgencode_any (g : G) (w : World) (hg : g.I) :
    Calls Tryd.prog 11 #[g.agg] w (RetE w g.valid g.enc) := by
  have HV := Lib.hid (refgvalid_any g)
  have HP := Lib.hid (fun W => refgput_any none 0 0 [] g W (nilB _) hg (by decide))
  have hE := G.enc_len hg
  generalize g.valid = vv at HV ⊢
  generalize g.enc = EE at HP hE ⊢
  obtain ⟨f, t, a, s, k, o, d, u, v⟩ := g
  have HV : Hid (∀ W, Calls Tryd.prog 13 #[.agg #[.int .i64 f, .int .i64 t, .int .i64 a, .int .i64 s, .int .i64 k, .int .i64 o, .int .i64 d, .int .i64 u, .int .i64 v]] W fun e w' => e = .returned (.bool vv) ∧ Below W.heap.size W w') := HV
  have HP : Hid (∀ W, Calls Tryd.prog 16 #[.slice none 0 0, .agg #[.int .i64 f, .int .i64 t, .int .i64 a, .int .i64 s, .int .i64 k, .int .i64 o, .int .i64 d, .int .i64 u, .int .i64 v]] W (RetB W ([] ++ EE))) := HP
  show Calls Tryd.prog 11 #[.agg #[.int .i64 f, .int .i64 t, .int .i64 a, .int .i64 s, .int .i64 k, .int .i64 o, .int .i64 d, .int .i64 u, .int .i64 v]] w _
  have HBX := Lib.hid (GBox.new w f t a s k o d u v)
  have B1 := Lib.hid (below_alloc (Below.refl w.heap.size w) (.cells #[.int .i64 f, .int .i64 t, .int .i64 a, .int .i64 s, .int .i64 k, .int .i64 o, .int .i64 d, .int .i64 u, .int .i64 v] 26))
  have hs1 := B1.out.size
  clear hg
  go_enter Tryd.func11, Tryd.ntmps11
  go_wp2_with fail
  refine (HV.out _).mono ?_
  rintro e w2 ⟨rfl, hb⟩
  have B2 := Lib.hid (B1.out.trans (hb.mono hs1))
  have hs2 := B2.out.size
  have HBX2 := Lib.hid (HBX.out.below hb)
  obtain ⟨⟨e0, e1, e2, e3⟩, e4, e5, e6, e7, e8⟩ := HBX2.out
  dsimp only at e0 e1 e2 e3 e4 e5 e6 e7 e8
  clear hb
  cases vv
  · go_wp2
    refine bodyPost_ret (results_tmp2 rfl _ _ _) rfl ?_
    exact ⟨none, 0, 0, rfl, OwB.nil _ _, B2.out⟩
  · go_wp2_with fail
    refine (HP.out _).mono ?_
    rintro e w3 ⟨A3, n3, c3, rfl, ho, hb⟩
    rw [List.nil_append] at ho
    have hn3 := ho.len
    have HO3 := Lib.hid (ho.less hs2)
    have B3 := Lib.hid (B2.out.trans (hb.mono hs2))
    have hU := U32_add 0 EE
    clear ho hb
    go_wp2_with fail
    refine (refsum_any _ _ _ EE _ HO3.out.rd).mono ?_
    rintro e w4 ⟨rfl, rfl⟩
    rw [add_ref]
    have hF : Hid (full EE = EE ++ le4 (add 0 EE)) := Lib.hid rfl
    generalize add 0 EE = S at hU hF
    have hU0 := hU.1
    have hU1 := hU.2
    have HBy := Lib.hid (By_le4 hU)
    have hs3 := B3.out.size
    clear hU
    go_wp2_with (first | (at_builtin; refine app (w0 := w) (base := w.heap.size) rfl (.tmp 13) (.tmp 25) rfl rfl rfl (HO3.out.alloc _) (litB w3 (0, 0) (le4 S) (Nat.le_of_ble_eq_true rfl) HBy.out) (B3.out.alloc hs3 _) ?s5 ?l5 ?_; (case s5 => simp; omega); (case l5 => omega); intro A5 n5 c5 w5 ho hb; have HO5 := Lib.hid ho; have B5 := Lib.hid hb; clear ho hb))
    refine bodyPost_ret (results_tmp2 rfl _ _ _) rfl ?_
    exact ⟨A5, n5, c5, rfl, by rw [if_pos rfl, hF.out]; exact HO5.out, B5.out⟩
end Go.Proofs.YtobkcedmjeidfaaDoor.gramw
