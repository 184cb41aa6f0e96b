/- The walk of the law WireTakes. -/
import Derived.Test.YtjhoidookoageaaWireLaws1
import Derived.Test.YtjhoidookoageaaTakeWalk3
set_option linter.unusedVariables false
set_option linter.unusedSimpArgs false
namespace Go.Proofs.Ytjhoidookoageaa.wirel
open Go.RowKit Go.Proofs.YtjhoidookoageaaW.PrintWords Go.Proofs.Ytjhoidookoageaa.base Go.Proofs.Ytjhoidookoageaa.mem Go.Proofs.Ytjhoidookoageaa.packp Go.Proofs.Ytjhoidookoageaa.packw Go.Proofs.Ytjhoidookoageaa.samew Go.Proofs.Ytjhoidookoageaa.wirep Go.Proofs.Ytjhoidookoageaa.wirew Go.Proofs.Ytjhoidookoageaa.takew

set_option maxHeartbeats 1000000 in
theorem takesLaw (A : Option Addr) (n c : Nat) (xs : List Int) (w : World) (hr : RdB w A n xs) (hc : n ≤ c) (hn : n * 1 ≤ 140737488351232) :
    Calls Try.prog 6 #[.slice A n c] w fun e w' => e = .returned (.bool true) ∧ Below w.heap.size w w' := by
  have HR := Lib.hid hr
  have HT : Hid (∀ W, RdB W A n xs → Calls Try.prog 15 #[.slice A n c] W fun e w' => e = .returned (Res.val (takeM xs)) ∧ Below W.heap.size W w') := Lib.hid fun W h => wtake_any A n c xs W h hc
  have HU : Hid (∀ W, RdB W A n xs → Calls Try.prog 16 #[.slice A n c] W fun e w' => e = .returned (Res.val (takeM xs)) ∧ Below W.heap.size W w') := Lib.hid fun W h => refwtake_any A n c xs W h hc
  have HF : Hid (∀ W, RdB W A n xs → Calls Try.prog 17 #[.slice A n c] W fun e w' => e = .returned (.int .i64 (fault xs)) ∧ W = w') := Lib.hid fun W h => fault_any A n c xs W h
  have HG : Hid (∀ W, RdB W A n xs → Calls Try.prog 18 #[.slice A n c] W fun e w' => e = .returned (.int .i64 (fault xs)) ∧ W = w') := Lib.hid fun W h => reffault_any A n c xs W h
  clear hr
  generalize fault xs = f at HF HG
  generalize takeM xs = R at HT HU
  obtain ⟨⟨k, o, d, u, v⟩, q, r⟩ := R
  have HT : Hid (∀ W, RdB W A n xs → Calls Try.prog 15 #[.slice A n c] W fun e w' => e = .returned (.tuple #[.agg #[.int .i64 k, .int .i64 o, .int .i64 d, .int .i64 u, .int .i64 v], .int .i64 q, .int .i64 r]) ∧ Below W.heap.size W w') := HT
  have HU : Hid (∀ W, RdB W A n xs → Calls Try.prog 16 #[.slice A n c] W fun e w' => e = .returned (.tuple #[.agg #[.int .i64 k, .int .i64 o, .int .i64 d, .int .i64 u, .int .i64 v], .int .i64 q, .int .i64 r]) ∧ Below W.heap.size W w') := HU
  go_enter Try.func6, Try.ntmps6
  go_wp2_with fail
  refine (wakes_any _).mono ?_
  rintro e w1 ⟨rfl, hb⟩
  have HB1 := Lib.hid hb
  have HR1 := Lib.hid (HR.out.below hb)
  clear hb
  go_wp2_with fail
  refine (HT.out _ HR1.out).mono ?_
  rintro e w2 ⟨rfl, hb⟩
  have HB2 := Lib.hid ((HB1.out.trans (hb.mono HB1.out.size)))
  have hs2 := HB2.out.size
  have HB3 := Lib.hid (HB2.out.alloc hs2 (.cells #[.int .i64 k, .int .i64 o, .int .i64 d, .int .i64 u, .int .i64 v] 24))
  have HR3 := Lib.hid (HR.out.below HB3.out)
  have HX3 := Lib.hid (Box.new w2 k o d u v)
  have hs3 := HB3.out.size
  clear hb
  go_wp2_with fail
  refine (HU.out _ HR3.out).mono ?_
  rintro e w4 ⟨rfl, hb⟩
  have HB4 := Lib.hid (HB3.out.trans (hb.mono hs3))
  have hs4 := HB4.out.size
  have HB5 := Lib.hid (HB4.out.alloc hs4 (.cells #[.int .i64 k, .int .i64 o, .int .i64 d, .int .i64 u, .int .i64 v] 24))
  have HR5 := Lib.hid (HR.out.below HB5.out)
  have HX4 := Lib.hid (HX3.out.below hb)
  obtain ⟨e0, e1, e2, e3, e4⟩ := HX4.out
  have hlt := World.block_lt_of_cell? _ _ e0
  dsimp only at e0 e1 e2 e3 e4 hlt
  clear hb
  go_wp2_with (first | (go_at_call 17; refine (HF.out _ HR5.out).mono ?_; rintro e w' ⟨rfl, rfl⟩) | (go_at_call 18; refine (HG.out _ HR5.out).mono ?_; rintro e w' ⟨rfl, rfl⟩))
  go_ret
  exact ⟨rfl, HB5.out⟩
end Go.Proofs.Ytjhoidookoageaa.wirel
