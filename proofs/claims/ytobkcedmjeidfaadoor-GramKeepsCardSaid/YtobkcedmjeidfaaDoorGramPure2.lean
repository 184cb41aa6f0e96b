/- Unlike datagrams have unlike bytes: plain laws; two datagrams compared by the program. -/
import Derived.Test.YtobkcedmjeidfaaDoorGramWalk4
set_option linter.unusedVariables false
set_option linter.unusedSimpArgs false
namespace Go.Proofs.YtobkcedmjeidfaaDoor.gramw
open Go.RowKit Go.Proofs.YtobkcedmjeidfaaDoorW.PrintWords Go.Proofs.YtobkcedmjeidfaaDoor.base Go.Proofs.YtobkcedmjeidfaaDoor.mem Go.Proofs.YtobkcedmjeidfaaDoor.packp Go.Proofs.YtobkcedmjeidfaaDoor.packw Go.Proofs.YtobkcedmjeidfaaDoor.samew Go.Proofs.YtobkcedmjeidfaaDoor.wirep Go.Proofs.YtobkcedmjeidfaaDoor.wirew Go.Proofs.YtobkcedmjeidfaaDoor.gramp Go.Proofs.YtobkcedmjeidfaaDoor.crcp Go.Proofs.YtobkcedmjeidfaaDoor.crcw

theorem G.free {a b : G} (ha : a.valid = true) (hb : b.valid = true) {r s : List Int} (h : a.enc ++ r = b.enc ++ s) : a = b := by
  have pa := G.parts ha
  have pb := G.parts hb
  have ea : a.enc = encAll [a.f, a.t, a.a, a.s] ++ (if a.s = 0 then [] else a.m.enc) := by unfold G.enc; rw [if_pos ha]
  have eb : b.enc = encAll [b.f, b.t, b.a, b.s] ++ (if b.s = 0 then [] else b.m.enc) := by unfold G.enc; rw [if_pos hb]
  rw [ea, eb] at h
  obtain ⟨a0, a1, a2, a3, am⟩ := a
  obtain ⟨b0, b1, b2, b3, bm⟩ := b
  dsimp only at pa pb h
  simp only [encAll, List.flatMap_cons, List.flatMap_nil, List.append_assoc, List.append_nil] at h
  obtain ⟨e0, h⟩ := encI_free (by omega) (by omega) h
  obtain ⟨e1, h⟩ := encI_free (by omega) (by omega) h
  obtain ⟨e2, h⟩ := encI_free (by omega) (by omega) h
  obtain ⟨e3, h⟩ := encI_free (by omega) (by omega) h
  subst e0 e1 e2 e3
  rcases pa.2.2.2.2.2 with ⟨z, e⟩ | ⟨z, ma⟩
  · rcases pb.2.2.2.2.2 with ⟨_, e'⟩ | ⟨z', _⟩
    · rw [e, e']
    · exact absurd z z'
  · rcases pb.2.2.2.2.2 with ⟨z', _⟩ | ⟨_, mb⟩
    · exact absurd z' z
    · rw [if_neg z, if_neg z] at h
      rw [M.free ma mb h]
theorem G.pre {a b : G} (ha : a.valid = true) (hb : b.valid = true) (n : Nat) (hn : n = min a.enc.length b.enc.length) (h : a.enc.take n = b.enc.take n) : a = b := by
  rcases Nat.le_total a.enc.length b.enc.length with c | c
  · rw [List.take_of_length_le (by omega)] at h
    refine G.free ha hb (r := b.enc.drop n) (s := []) ?_
    rw [h, List.take_append_drop, List.append_nil]
  · rw [List.take_of_length_le (l := b.enc) (by omega)] at h
    refine G.free ha hb (r := []) (s := a.enc.drop n) ?_
    rw [← h, List.take_append_drop, List.append_nil]
theorem G.unlike {a b : G} (ha : a.valid = true) (hb : b.valid = true) (h : a ≠ b) : (∀ n, n = min a.enc.length b.enc.length → eqL (a.enc.take n) (b.enc.take n) = false) ∧ eqL (full a.enc) (full b.enc) = false :=
  ⟨fun n hn => eqL_ne fun e => h (G.pre ha hb n hn e), eqL_ne fun e => h (G.free ha hb e)⟩
theorem G.enc_pos {g : G} (h : g.valid = true) : 0 < g.enc.length := by
  have p := G.parts h
  unfold G.enc
  rw [if_pos h]
  have := (encI_len g.f (by omega)).1
  simp [encAll]
  omega
theorem geq (a0 a1 a2 a3 a4 a5 a6 a7 a8 b0 b1 b2 b3 b4 b5 b6 b7 b8 : Int) (W : World) : (binOp .eql 26 (.agg #[.int .i64 a0, .int .i64 a1, .int .i64 a2, .int .i64 a3, .int .i64 a4, .int .i64 a5, .int .i64 a6, .int .i64 a7, .int .i64 a8]) (.agg #[.int .i64 b0, .int .i64 b1, .int .i64 b2, .int .i64 b3, .int .i64 b4, .int .i64 b5, .int .i64 b6, .int .i64 b7, .int .i64 b8])).run Tryd.prog W = .ok (.bool (decide ((⟨a0, a1, a2, a3, ⟨a4, a5, a6, a7, a8⟩⟩ : G) = ⟨b0, b1, b2, b3, ⟨b4, b5, b6, b7, b8⟩⟩))) W := by
  have e : (decide ((⟨a0, a1, a2, a3, ⟨a4, a5, a6, a7, a8⟩⟩ : G) = ⟨b0, b1, b2, b3, ⟨b4, b5, b6, b7, b8⟩⟩)) = (a0 == b0 && a1 == b1 && a2 == b2 && a3 == b3 && (a4 == b4 && a5 == b5 && a6 == b6 && a7 == b7 && a8 == b8)) := by
    rw [Bool.eq_iff_iff]
    simp [and_assoc]
  rw [e]
  go_simp
  repeat' split
  all_goals simp_all
end Go.Proofs.YtobkcedmjeidfaaDoor.gramw
