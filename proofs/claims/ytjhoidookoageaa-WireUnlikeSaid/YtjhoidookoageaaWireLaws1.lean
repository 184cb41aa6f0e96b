/- The law's wakes and the walk of the law WirePuts. -/
import Derived.Test.YtjhoidookoageaaWireWalk2
set_option linter.unusedVariables false
set_option linter.unusedSimpArgs false
namespace Go.Proofs.Ytjhoidookoageaa.wirel
open Go.RowKit Go.Proofs.YtjhoidookoageaaW.PrintWords Go.Proofs.Ytjhoidookoageaa.base Go.Proofs.Ytjhoidookoageaa.mem Go.Proofs.Ytjhoidookoageaa.packp Go.Proofs.Ytjhoidookoageaa.packw Go.Proofs.Ytjhoidookoageaa.samew Go.Proofs.Ytjhoidookoageaa.wirep Go.Proofs.Ytjhoidookoageaa.wirew

theorem wakes_enc : M.enc ⟨1, 2, 3, 300, 0⟩ = [1, 2, 3, 172, 2] := by
  rw [M.enc_other (M.valid_of (by decide)) (by decide)]
  have e1 : encI 1 = [1] := enc_small 1 (by decide)
  have e2 : encI 2 = [2] := enc_small 2 (by decide)
  have e3 : encI 3 = [3] := enc_small 3 (by decide)
  have e4 : encI 300 = [172, 2] := by
    show enc 300 = _
    rw [enc_big 300 (by decide), enc_small _ (by decide)]; rfl
  simp only [encAll, List.flatMap_cons, List.flatMap_nil, e1, e2, e3, e4]
  rfl
theorem wakes_any (w : World) :
    Calls Try.prog 9 #[] w fun e w' => e = .returned (.bool true) ∧ Below w.heap.size w w' := by
  have HP := Lib.hid (wput_any none 0 0 [] ⟨1, 2, 3, 300, 0⟩ w (nilB _) (by unfold M.I; decide) (by decide))
  go_enter Try.func9, Try.ntmps9
  go_wp2_with fail
  refine HP.out.mono ?_
  rintro e w' ⟨A1, n1, c1, rfl, ho, hb⟩
  rw [List.nil_append, wakes_enc] at ho
  have H3 := Lib.hid (ho.rd.below (below_alloc (Below.refl _ _) (.cells (nums .u8 [1, 2, 3, 172, 2]).toArray 5)))
  have H4 := Lib.hid (litB w' (0, 0) [1, 2, 3, 172, 2] (Nat.le_of_ble_eq_true rfl) (By_of _ (by decide)))
  have B4 := Lib.hid (hb.alloc hb.size (.cells (nums .u8 [1, 2, 3, 172, 2]).toArray 5))
  clear ho hb
  go_wp2_with fail
  refine (same_any _ _ _ _ _ _ _ _ _ H3.out H4.out).mono ?_
  rintro e w'' ⟨rfl, ⟨q, rfl⟩⟩
  rw [eqL_self]
  go_wp2
  go_ret
  exact ⟨rfl, pw_below_drewN B4.out _⟩
set_option maxHeartbeats 1000000 in
set_option maxRecDepth 100000 in
theorem putsLaw (A : Option Addr) (n c : Nat) (xs : List Int) (m : M) (w : World) (hr : RdB w A n xs) (_ : n ≤ c) (hn : n * 1 ≤ 140737488351232) (hm : m.I) :
    Calls Try.prog 3 #[.slice A n c, m.agg] w fun e w' => e = .returned (.bool true) ∧ Below w.heap.size w w' := by
  have HV := Lib.hid (valid_any m)
  have HV' := Lib.hid (refvalid_any m)
  have hl : n + 45 ≤ 140737488355328 := by omega
  have HPut := Lib.hid (fun W (h : RdB W A n xs) => wput_any A n c xs m W h hm hl)
  have HPut' := Lib.hid (fun W (h : RdB W A n xs) => refwput_any A n c xs m W h hm hl)
  have HR := Lib.hid hr
  clear hr hn
  obtain ⟨k, o, d, u, v⟩ := m
  show Calls Try.prog 3 #[.slice A n c, .agg #[.int .i64 k, .int .i64 o, .int .i64 d, .int .i64 u, .int .i64 v]] w _
  have HBX := Lib.hid (Box.new w k o d u v)
  have B1 := Lib.hid (below_alloc (Below.refl w.heap.size w) (.cells #[.int .i64 k, .int .i64 o, .int .i64 d, .int .i64 u, .int .i64 v] 24))
  generalize M.valid ⟨k, o, d, u, v⟩ = b at HV HV'
  have hbb : (b == b) = true := beq_self_eq_true _
  generalize xs ++ M.enc ⟨k, o, d, u, v⟩ = out at HPut HPut'
  go_enter Try.func3, Try.ntmps3
  go_wp2_with fail
  have HB1 := Lib.hid B1.out.drew
  have hs1 := HB1.out.size
  have HX1 := Lib.hid (HBX.out.below (Below.refl _ _).drew)
  have hx1 := HX1.out
  go_region_held3 (fun W => W.cell? ⟨w.heap.size, 0, none⟩ = some (.int .i64 k) ∧ W.cell? ⟨w.heap.size, 1, none⟩ = some (.int .i64 o) ∧ W.cell? ⟨w.heap.size, 2, none⟩ = some (.int .i64 d) ∧ W.cell? ⟨w.heap.size, 3, none⟩ = some (.int .i64 u) ∧ W.cell? ⟨w.heap.size, 4, none⟩ = some (.int .i64 v)) (first | assumption | exact HBX.out) (first | (go_at_call 9; refine (wakes_any _).mono ?_; rintro e w2 ⟨rfl, hb⟩; have HB2 := Lib.hid (HB1.out.trans (hb.mono hs1)); have hs2 := HB2.out.size; have HX2 := Lib.hid (HX1.out.below hb); have hx2 := HX2.out; clear hb) | (go_at_call 10; refine (HV.out _).mono ?_; rintro e w3 ⟨rfl, hb⟩; have HB3 := Lib.hid (HB2.out.trans (hb.mono hs2)); have hs3 := HB3.out.size; have HX3 := Lib.hid (HX2.out.below hb); have hx3 := HX3.out; clear hb) | (go_at_call 11; refine (HV'.out _).mono ?_; rintro e w4 ⟨rfl, hb⟩; have HB4 := Lib.hid (HB3.out.trans (hb.mono hs3)); have hs4 := HB4.out.size; have HX4 := Lib.hid (HX3.out.below hb); have hx4 := HX4.out; clear hb) | (go_at_call 13; refine (HPut.out _ (HR.out.below HB4.out)).mono ?_; rintro e w5 ⟨A5, n5, c5, rfl, ho, hb⟩; have HB5 := Lib.hid (HB4.out.trans (hb.mono hs4)); have hs5 := HB5.out.size; have HX5 := Lib.hid (HX4.out.below hb); have hx5 := HX5.out; have HO5 := Lib.hid ho; clear ho; clear hb) | (go_at_call 14; refine (HPut'.out _ (HR.out.below HB5.out)).mono ?_; rintro e w6 ⟨A6, n6, c6, rfl, ho, hb⟩; have HP6 := Lib.hid (HO5.out.below hb).rd; have HO6 := Lib.hid ho.rd; clear ho; have HB6 := Lib.hid (HB5.out.trans (hb.mono hs5)); have hs6 := HB6.out.size; have HX6 := Lib.hid (HX5.out.below hb); have hx6 := HX6.out; clear hb) | (go_at_call 12; refine (same_any _ _ _ _ _ _ _ _ _ HP6.out HO6.out).mono ?_; rintro e w7 ⟨rfl, ⟨q, rfl⟩⟩; rw [eqL_self]))
  go_wp2
  go_ret
  exact ⟨rfl, pw_below_drewN HB6.out _⟩
end Go.Proofs.Ytjhoidookoageaa.wirel
