/- What vault.Open computes; and what is proved besides: see the words ahead of each part. -/
import Derived.Test.YtfinaikgikifcaaDoorVaultKeepsMg5
set_option linter.unusedVariables false
set_option linter.unusedSimpArgs false
/- What vault.Open computes. -/
namespace Go.Proofs.YtfinaikgikifcaaDoor.vaulto
open Go.RowKit Go.Shelf Go.Proofs.YtfinaikgikifcaaDoorW.PrintWords Go.Proofs.YtfinaikgikifcaaDoor.base Go.Proofs.YtfinaikgikifcaaDoor.mem Go.Proofs.YtfinaikgikifcaaDoor.keep Go.Proofs.YtfinaikgikifcaaDoor.crcp Go.Proofs.YtfinaikgikifcaaDoor.crcw Go.Proofs.YtfinaikgikifcaaDoor.samew Go.Proofs.YtfinaikgikifcaaDoor.framep Go.Proofs.YtfinaikgikifcaaDoor.framew Go.Proofs.YtfinaikgikifcaaDoor.frameit Go.Proofs.YtfinaikgikifcaaDoor.framem Go.Proofs.YtfinaikgikifcaaDoor.framel Go.Proofs.YtfinaikgikifcaaDoor.framea Go.Proofs.YtfinaikgikifcaaDoor.framer Go.Proofs.YtfinaikgikifcaaDoor.framen Go.Proofs.YtfinaikgikifcaaDoor.framek Go.Proofs.YtfinaikgikifcaaDoor.diskp Go.Proofs.YtfinaikgikifcaaDoor.diskr Go.Proofs.YtfinaikgikifcaaDoor.diskw Go.Proofs.YtfinaikgikifcaaDoor.vaultp Go.Proofs.YtfinaikgikifcaaDoor.vaultw Go.Proofs.YtfinaikgikifcaaDoor.over Go.Proofs.YtfinaikgikifcaaDoor.vaultl
attribute [local go_sem] Oper.semAt_some


/-- where what is answered lies -/
structure Got (P : Nat → Prop) (w : World) (base : Nat) (A : Option Addr) (n c : Nat) (xs : List Int) (B : Option Addr) (m e : Nat) (cells : List Value) (xss : List (List Int)) : Prop where
  snap : ∃ (k : Nat) (A0 : Option Addr) (n0 c0 : Nat) (ys : List Int), OwB w base A0 n0 c0 ys ∧ (∀ (W' : World) (zs : List Int), RdB W' A0 n0 zs → RdB W' A n (zs.drop k)) ∧ xs = ys.drop k ∧ n ≤ c ∧ ∀ j, (Value.slice A0 n0 c0).ownBlock = some j → P j
  rows : OwV w base B m e cells
  head : ∀ j, (Value.slice B m e).ownBlock = some j → P j
  each : Rws w base cells xss
  lies : ∀ (i j : Nat) (a : Option Addr) (n c : Nat), cells[i]? = some (Value.slice a n c) → (Value.slice a n c).ownBlock = some j → P j
section
variable {P Q : Nat → Prop} {w w1 : World} {base n c m e : Nat} {A B : Option Addr} {xs : List Int} {cells : List Value} {xss : List (List Int)}
theorem Got.of (h1 : Snap w base A n c xs) (h2 : OwV w base B m e cells) (h3 : Rws w base cells xss) : Got (fun j => base ≤ j ∧ j < w.heap.size) w base A n c xs B m e cells xss := by
  obtain ⟨k, A0, n0, c0, ys, q1, q2, q3, q4⟩ := h1
  refine ⟨⟨k, A0, n0, c0, ys, q1, q2, q3, q4, fun j hj => OwB.blk q1 j hj⟩, h2, fun j hj => OwV.blk h2 j hj, h3, fun i j a n c hi hj => ?_⟩
  obtain ⟨a', m', c', e', ho⟩ := h3.at_ i (by rw [← h3.len]; exact (List.getElem?_eq_some_iff.1 hi).1)
  rw [hi] at e'
  cases e'
  exact OwB.blk ho j hj
theorem Got.mono (h : Got P w base A n c xs B m e cells xss) (hq : ∀ j, P j → Q j) : Got Q w base A n c xs B m e cells xss := by
  obtain ⟨k, A0, n0, c0, ys, q1, q2, q3, q4, q5⟩ := h.snap
  exact ⟨⟨k, A0, n0, c0, ys, q1, q2, q3, q4, fun j hj => hq j (q5 j hj)⟩, h.rows, fun j hj => hq j (h.head j hj), h.each, fun i j a n c hi hj => hq j (h.lies i j a n c hi hj)⟩
theorem own_kp {w w1 : World} {B n c : Nat} {A : Option Addr} {xs : List Int} {P : Nat → Prop} (h : OwB w B A n c xs) (hk : Kp P w w1) (hp : ∀ j, (Value.slice A n c).ownBlock = some j → P j) : OwB w1 B A n c xs := by
  refine ⟨⟨h.1.1, ?_⟩, h.2⟩
  rcases h.1.2 with hv | ⟨g, cap, cur, hv, h1, h2, h3⟩
  · exact .inl hv
  · refine .inr ⟨g, cap, cur, hv, h1, ?_, h3⟩
    rw [hk.2 g (hp g (by rw [hv]; rfl)) (Array.getElem?_eq_some_iff.1 h2).1]
    exact h2
theorem ownV_kp {w w1 : World} {B n c : Nat} {A : Option Addr} {cells : List Value} {P : Nat → Prop} (h : OwV w B A n c cells) (hk : Kp P w w1) (hp : ∀ j, (Value.slice A n c).ownBlock = some j → P j) : OwV w1 B A n c cells := by
  refine ⟨h.1, ?_⟩
  rcases h.2 with hv | ⟨g, cap, cur, hv, h1, h2, h3⟩
  · exact .inl hv
  · refine .inr ⟨g, cap, cur, hv, h1, ?_, h3⟩
    rw [hk.2 g (hp g (by rw [hv]; rfl)) (Array.getElem?_eq_some_iff.1 h2).1]
    exact h2
theorem Got.kp (h : Got P w base A n c xs B m e cells xss) (hk : Kp P w w1) : Got P w1 base A n c xs B m e cells xss := by
  obtain ⟨k, A0, n0, c0, ys, q1, q2, q3, q4, q5⟩ := h.snap
  refine ⟨⟨k, A0, n0, c0, ys, own_kp q1 hk q5, q2, q3, q4, q5⟩, ownV_kp h.rows hk h.head, h.head, ⟨h.each.len, fun j hj => ?_, h.each.apart⟩, h.lies⟩
  obtain ⟨a, m', c', e', ho⟩ := h.each.at_ j hj
  exact ⟨a, m', c', e', own_kp ho hk fun i hi => h.lies j i a m' c' e' hi⟩
theorem Got.less {b : Nat} (h : Got P w base A n c xs B m e cells xss) (hb : b ≤ base) : Got P w b A n c xs B m e cells xss := by
  obtain ⟨k, A0, n0, c0, ys, q1, q2, q3, q4, q5⟩ := h.snap
  refine ⟨⟨k, A0, n0, c0, ys, q1.less hb, q2, q3, q4, q5⟩, own_less h.rows hb, h.head, ⟨h.each.len, fun j hj => ?_, h.each.apart⟩, h.lies⟩
  obtain ⟨a, m', c', e', ho⟩ := h.each.at_ j hj
  exact ⟨a, m', c', e', ho.less hb⟩
theorem Got.rd (h : Got P w base A n c xs B m e cells xss) : RdB w A n xs := by
  obtain ⟨k, A0, n0, c0, ys, q1, q2, rfl, _⟩ := h.snap
  exact q2 w ys q1.rd
theorem Got.rds (h : Got P w base A n c xs B m e cells xss) (hm : m ≤ 9223372036854775807) : RdBB w B m xss := OwV.rd h.rows h.each.of hm
end
/-- behind Open -/
def RetOp (w : World) (base p : Nat) (cs : Nat → Sl) (r : Opn) (new : Prop) (e : Ending) (w' : World) : Prop :=
  (r.e ≠ 0 ∧ e = .returned (.tuple #[.pointer none, .slice none 0 0, .slice none 0 0, .int .i64 r.e]) ∧ DPost w base p cs r.d w') ∨
  (r.e = 0 ∧ ∃ q A n c B m c2 cells cs', e = .returned (.tuple #[.pointer (some ⟨q, 0, none⟩), .slice A n c, .slice B m c2, .int .i64 0]) ∧ DAt w' base p cs' r.d ∧ DStep w base p cs w' cs' ∧ VB w' q p r.v.f r.v.g (r.v.r.length : Nat) 0 ∧ (w.heap.size ≤ q ∧ ¬ Ft p cs' q) ∧
    Got (fun j => w.heap.size ≤ j ∧ ¬ Ft p cs' j ∧ j ≠ q) w' w.heap.size A n c r.v.s B m c2 cells r.v.r ∧ (new → OwB w' w.heap.size A n c r.v.s ∧ ∀ j, (Value.slice A n c).ownBlock = some j → w.heap.size ≤ j ∧ ¬ Ft p cs' j ∧ j ≠ q))
def fcells (x0 x1 : Int × List Int × List (List Int)) (A0 A1 B0 B1 : Option Addr) (n0 c0 m0 e0 n1 c1 m1 e1 : Nat) (z0 l0 z1 l1 : Nat) : Array Value :=
  #[.int .i64 x0.1, .slice A0 n0 c0, .slice B0 m0 e0, .int .i64 (z0 : Nat), .int .i64 (l0 : Nat), .int .i64 x1.1, .slice A1 n1 c1, .slice B1 m1 e1, .int .i64 (z1 : Nat), .int .i64 (l1 : Nat)]
theorem fbox {W : World} {b : Nat} {v0 v1 v2 v3 v4 v5 v6 v7 v8 v9 : Value} {t : TypeId} (h : W.heap[b]? = some (.cells #[v0, v1, v2, v3, v4, v5, v6, v7, v8, v9] t (0, 0))) :
    (W.cell? ⟨b, 0, none⟩ = some v0 ∧ W.cell? ⟨b, 1, none⟩ = some v1 ∧ W.cell? ⟨b, 2, none⟩ = some v2 ∧ W.cell? ⟨b, 3, none⟩ = some v3 ∧ W.cell? ⟨b, 4, none⟩ = some v4 ∧ W.cell? ⟨b, 5, none⟩ = some v5 ∧ W.cell? ⟨b, 6, none⟩ = some v6 ∧ W.cell? ⟨b, 7, none⟩ = some v7 ∧ W.cell? ⟨b, 8, none⟩ = some v8 ∧ W.cell? ⟨b, 9, none⟩ = some v9) ∧ ∀ i, W.frozen? ⟨b, i, none⟩ = false := by
  refine ⟨?_, fun i => ?_⟩
  · unfold World.cell?
    simp [h]
  · unfold World.frozen?
    simp [h]
theorem OwB.blockT {w w' : World} {kb base n c : Nat} {A : Option Addr} {ys : List Int} {cs : Array Value} {t : TypeId} (ht : t ≠ 5) (h : OwB w base A n c ys) (hb : ∀ g, g ≠ kb → w'.heap[g]? = w.heap[g]?) (hk : w.heap[kb]? = some (.cells cs t (0, 0))) : OwB w' base A n c ys := by
  refine ⟨⟨h.1.1, ?_⟩, h.2⟩
  rcases h.1.2 with hv | ⟨g, cap, cur, hv, h1, h2, h3⟩
  · exact .inl hv
  · refine .inr ⟨g, cap, cur, hv, h1, ?_, h3⟩
    rw [hb g (fun e => ?_)]
    · exact h2
    · subst e
      rw [hk] at h2
      injection h2 with h2
      injection h2 with _ h2 _
      exact ht h2
theorem results_tmp4 {fn : Func} {t u v x : Tmp} (h : fn.results = #[.tmp t, .tmp u, .tmp v, .tmp x]) (tmps : Array Value) (P : Program) (w : World) :
    (results fn tmps).run P w = .ok (.tuple #[tmps.getD t undef, tmps.getD u undef, tmps.getD v undef, tmps.getD x undef]) w := by
  simp [results, h]
theorem after_kb {w wx wy : World} {base p kb : Nat} {cs csx : Nat → Sl} {d : D} (H : DAt wx base p csx d) (S : DStep w base p cs wx csx) (hkb : w.heap.size ≤ kb) (hn : ¬ Ft p csx kb) (hblk : ∀ i, i ≠ kb → i < wx.heap.size → wy.heap[i]? = wx.heap[i]?) (hbel : Below base wx wy) : DAt wy base p csx d ∧ DStep w base p cs wy csx :=
  ⟨H.blocks fun g hg => hblk g (fun e => hn (e ▸ hg)) (H.ft hg).2, ⟨Nat.le_trans S.keep.1 hbel.size, fun i hi hlt => (hblk i (by omega) (Nat.lt_of_lt_of_le hlt S.keep.1)).trans (S.keep.2 i hi hlt)⟩, S.foot, S.bel.trans hbel⟩
theorem set5_blk (W : World) (b : Nat) (v0 v1 v2 v3 v4 : Value) {j : Nat} : ∀ i, i ≠ b → (((((W.setCell ⟨b, j, none⟩ v0).setCell ⟨b, j + 1, none⟩ v1).setCell ⟨b, j + 2, none⟩ v2).setCell ⟨b, j + 3, none⟩ v3).setCell ⟨b, j + 4, none⟩ v4).heap[i]? = W.heap[i]? := fun i hi => by
  rw [Below.heap_setCell _ _ _ _ hi, Below.heap_setCell _ _ _ _ hi, Below.heap_setCell _ _ _ _ hi, Below.heap_setCell _ _ _ _ hi, Below.heap_setCell _ _ _ _ hi]
theorem set5_below (W : World) (n b j : Nat) (hb : n ≤ b) (v0 v1 v2 v3 v4 : Value) : Below n W (((((W.setCell ⟨b, j, none⟩ v0).setCell ⟨b, j + 1, none⟩ v1).setCell ⟨b, j + 2, none⟩ v2).setCell ⟨b, j + 3, none⟩ v3).setCell ⟨b, j + 4, none⟩ v4) :=
  (((((Below.refl n W).setCell (p := ⟨b, j, none⟩) hb _).setCell (p := ⟨b, j + 1, none⟩) hb _).setCell (p := ⟨b, j + 2, none⟩) hb _).setCell (p := ⟨b, j + 3, none⟩) hb _).setCell (p := ⟨b, j + 4, none⟩) hb _
set_option maxHeartbeats 4000000 in
set_option maxRecDepth 100000 in
theorem open_on {w : World} {base p : Nat} {cs : Nat → Sl} {d : D} {S N : Nat} (h : DAt w base p cs d) (hk : Ok d S N) (A : Option Addr) (n c : Nat) (s : List Int) (hsn : ∀ (w' : World) (cs' : Nat → Sl), DStep w base p cs w' cs' → RdB w' A n s) (hn : 8 + s.length ≤ 1048576) (hS : S + 1048584 ≤ 70368744177664) (hN : N + 4 ≤ 4611686018427387904) (hoff : d.off = false)
    (hp0 : (P (fileB d 0)).length ≤ 5864062014804) (hp1 : (P (fileB d 1)).length ≤ 5864062014804) (ht : Table w) :
    Calls Tryd.prog 11 #[.pointer (some ⟨p, 0, none⟩), .slice A n c] w (RetOp w base p cs (openR d s) ((lookF (fileB d (vaultp.pick d))).1 = 0)) := by
  have hr := hsn w cs (DStep.refl _ _ _ _)
  have hl := hr.len
  have HSN := Lib.hid hsn
  have HF := Lib.hid (first_any 1 (by omega) A n c s w hr (by omega) ht)
  have HFR : Hid (firstR 1 s = (firstB 1 s, 0)) := Lib.hid (if_pos hn)
  rw [HFR.out] at HF
  have H := Lib.hid h
  have HK := Lib.hid hk
  have HR := Lib.hid hr
  have HT := Lib.hid ht
  have HFB : Hid ((firstB 1 s).length = 8 + (8 + n)) := Lib.hid (by unfold firstB; rw [fenc_len, List.length_append, le8_len]; omega)
  have HLA := Lib.hid (fun W (hb : Below w.heap.size w W) => look_any (h.below hb) (hk.fit (by omega) (by omega)).b 0 (by omega) hoff hp0 (ht.below hb))
  have HLB := Lib.hid (fun W (hb : Below w.heap.size w W) => look_any (h.below hb) (hk.fit (by omega) (by omega)).b 1 (by omega) hoff hp1 (ht.below hb))
  have hz0 : (fileB d 0).length ≤ S := by have := hk.s.1; unfold fileB; rw [List.length_append]; exact this
  have hz1 : (fileB d 1).length ≤ S := by have := hk.s.2; unfold fileB; rw [List.length_append]; exact this
  have hE0 := E_le (fileB d 0)
  have hE1 := E_le (fileB d 1)
  have HOP : Hid (openR d s = if (lookF (fileB d (pick d))).1 = 0 then newR d s else oldR d (pick d)) := Lib.hid (by
    unfold openR
    rw [if_neg (by omega), hoff, if_neg (by simp)])
  clear h hk hr hsn ht hp0 hp1 HFR
  go_enter Tryd.func11, Tryd.ntmps11
  go_wp2_with fail
  refine HF.out.mono ?_
  rintro e w2 ⟨A2, n2, c2, rfl, ho, hb⟩
  have HO2 := Lib.hid ho
  have hl2 := ho.len
  rw [HFB.out] at hl2
  have B2 := Lib.hid hb
  have hs2 := hb.size
  clear ho hb
  have B3 := Lib.hid (below_alloc (Below.refl w2.heap.size w2) (.cells #[.int .i64 0, .slice none 0 0, .slice none 0 0, .int .i64 0, .int .i64 0, .int .i64 0, .slice none 0 0, .slice none 0 0, .int .i64 0, .int .i64 0] 67))
  have hb3 : (w2.alloc (.cells #[.int .i64 0, .slice none 0 0, .slice none 0 0, .int .i64 0, .int .i64 0, .int .i64 0, .slice none 0 0, .slice none 0 0, .int .i64 0, .int .i64 0] 67)).heap[w2.heap.size]? = some (.cells #[.int .i64 0, .slice none 0 0, .slice none 0 0, .int .i64 0, .int .i64 0, .int .i64 0, .slice none 0 0, .slice none 0 0, .int .i64 0, .int .i64 0] 67 (0, 0)) := World.alloc_heap_new w2 _
  have hz3 : (w2.alloc (.cells #[.int .i64 0, .slice none 0 0, .slice none 0 0, .int .i64 0, .int .i64 0, .int .i64 0, .slice none 0 0, .slice none 0 0, .int .i64 0, .int .i64 0] 67)).heap.size = w2.heap.size + 1 := by simp
  go_wp2
  generalize w2.alloc (.cells #[.int .i64 0, .slice none 0 0, .slice none 0 0, .int .i64 0, .int .i64 0, .int .i64 0, .slice none 0 0, .slice none 0 0, .int .i64 0, .int .i64 0] 67) = w3 at B3 hb3 hz3 ⊢
  have B23 := Lib.hid (B2.out.trans (B3.out.mono hs2))
  have HO3 := Lib.hid (HO2.out.below B3.out)
  generalize hfb : w2.heap.size = fb at hb3 hz3 hs2 ⊢
  clear hfb B3 HO2 B2
  refine wp_loop_rounds 3 ?_
  rw [rounds_succ]
  have HL3 := Lib.hid (HLA.out w3 B23.out)
  go_wp2_with fail
  refine HL3.out.mono ?_
  rintro e w4 ⟨A0, n0, c0, D0, m0, e0, cells0, rfl, hsn0, hv0, hr0, hb⟩
  have hb4 := (hb.block fb (by omega)).trans hb3
  have B34 := Lib.hid hb
  have HG0 := Lib.hid (Got.of hsn0 hv0 hr0)
  have hs4 := hb.size
  have HB4 := Lib.hid hb4
  obtain ⟨cel, fr⟩ := fbox hb4
  clear hsn0 hv0 hr0 hb hb3 HL3 hb4
  obtain ⟨q0, q1, q2, q3, q4, q5, q6, q7, q8, q9⟩ := cel
  have f0 := fr 0
  have f1 := fr 1
  have f2 := fr 2
  have f3 := fr 3
  have f4 := fr 4
  clear fr
  unfold keptV
  go_wp2
  rw [rounds_succ]
  clear q0 q1 q2 q3 q4 q5 q6 q7 q8 q9 f0 f1 f2 f3 f4
  have hX := box_put (box_put (box_put (box_put (box_put HB4.out 0 (.int .i64 (lookF (fileB d 0)).1)) 1 (.slice A0 n0 c0)) 2 (.slice D0 m0 e0)) 3 (.int .i64 ((fileB d 0).length : Nat))) 4 (.int .i64 (E (fileB d 0) : Nat))
  have hblk := set5_blk (j := 0) w4 fb (.int .i64 (lookF (fileB d 0)).1) (.slice A0 n0 c0) (.slice D0 m0 e0) (.int .i64 ((fileB d 0).length : Nat)) (.int .i64 (E (fileB d 0) : Nat))
  have hbel := set5_below w4 w.heap.size fb 0 hs2 (.int .i64 (lookF (fileB d 0)).1) (.slice A0 n0 c0) (.slice D0 m0 e0) (.int .i64 ((fileB d 0).length : Nat)) (.int .i64 (E (fileB d 0) : Nat))
  generalize ((((w4.setCell ⟨fb, 0, none⟩ (.int .i64 (lookF (fileB d 0)).1)).setCell ⟨fb, 1, none⟩ (.slice A0 n0 c0)).setCell ⟨fb, 2, none⟩ (.slice D0 m0 e0)).setCell ⟨fb, 3, none⟩ (.int .i64 ((fileB d 0).length : Nat))).setCell ⟨fb, 4, none⟩ (.int .i64 (E (fileB d 0) : Nat)) = w5 at hX hblk hbel ⊢
  have hX5 : w5.heap[fb]? = some (.cells #[.int .i64 (lookF (fileB d 0)).1, .slice A0 n0 c0, .slice D0 m0 e0, .int .i64 ((fileB d 0).length : Nat), .int .i64 (E (fileB d 0) : Nat), .int .i64 0, .slice none 0 0, .slice none 0 0, .int .i64 0, .int .i64 0] 67 (0, 0)) := hX
  have B25 := Lib.hid (B23.out.trans ((B34.out.mono (by omega)).trans hbel))
  have hs5 := hbel.size
  have HG5 : Hid (Got (fun j => w3.heap.size ≤ j ∧ j < w4.heap.size) w5 w3.heap.size A0 n0 c0 (lookF (fileB d 0)).2.1 D0 m0 e0 cells0 (lookF (fileB d 0)).2.2) := Lib.hid (HG0.out.kp ⟨hbel.size, fun i hi _ => hblk i (by omega)⟩)
  have HO5 : Hid (OwB w5 w.heap.size A2 n2 c2 (firstB 1 s)) := Lib.hid (OwB.blockT (t := 67) (by decide) (HO3.out.below B34.out) hblk HB4.out)
  clear HG0 HO3 hblk hbel hX B34 B23 HB4
  have HL5 := Lib.hid (HLB.out w5 B25.out)
  go_wp2_with fail
  refine HL5.out.mono ?_
  rintro e w6 ⟨A1, n1, c1, D1, m1, e1, cells1, rfl, hsn1, hv1, hr1, hb⟩
  have hb6 := (hb.block fb (by omega)).trans hX5
  have B56 := Lib.hid hb
  have HG1 := Lib.hid (Got.of hsn1 hv1 hr1)
  have hs6 := hb.size
  have HB6 := Lib.hid hb6
  obtain ⟨cel, fr⟩ := fbox hb6
  clear hsn1 hv1 hr1 hb hX5 HL5 hb6
  obtain ⟨q0, q1, q2, q3, q4, q5, q6, q7, q8, q9⟩ := cel
  have f5 := fr 5
  have f6 := fr 6
  have f7 := fr 7
  have f8 := fr 8
  have f9 := fr 9
  clear fr
  unfold keptV
  go_wp2
  rw [rounds_succ]
  clear q0 q1 q2 q3 q4 q5 q6 q7 q8 q9 f5 f6 f7 f8 f9
  have hX := box_put (box_put (box_put (box_put (box_put HB6.out 5 (.int .i64 (lookF (fileB d 1)).1)) 6 (.slice A1 n1 c1)) 7 (.slice D1 m1 e1)) 8 (.int .i64 ((fileB d 1).length : Nat))) 9 (.int .i64 (E (fileB d 1) : Nat))
  have hblk := set5_blk (j := 5) w6 fb (.int .i64 (lookF (fileB d 1)).1) (.slice A1 n1 c1) (.slice D1 m1 e1) (.int .i64 ((fileB d 1).length : Nat)) (.int .i64 (E (fileB d 1) : Nat))
  have hbel := set5_below w6 w.heap.size fb 5 hs2 (.int .i64 (lookF (fileB d 1)).1) (.slice A1 n1 c1) (.slice D1 m1 e1) (.int .i64 ((fileB d 1).length : Nat)) (.int .i64 (E (fileB d 1) : Nat))
  generalize ((((w6.setCell ⟨fb, 5, none⟩ (.int .i64 (lookF (fileB d 1)).1)).setCell ⟨fb, 6, none⟩ (.slice A1 n1 c1)).setCell ⟨fb, 7, none⟩ (.slice D1 m1 e1)).setCell ⟨fb, 8, none⟩ (.int .i64 ((fileB d 1).length : Nat))).setCell ⟨fb, 9, none⟩ (.int .i64 (E (fileB d 1) : Nat)) = w7 at hX hblk hbel ⊢
  have hX7 : w7.heap[fb]? = some (.cells (fcells (lookF (fileB d 0)) (lookF (fileB d 1)) A0 A1 D0 D1 n0 c0 m0 e0 n1 c1 m1 e1 (fileB d 0).length (E (fileB d 0)) (fileB d 1).length (E (fileB d 1))) 67 (0, 0)) := hX
  have B27 := Lib.hid (B25.out.trans ((B56.out.mono (by omega)).trans hbel))
  have hs7 := hbel.size
  have HG70 : Hid (Got (fun j => w3.heap.size ≤ j ∧ j < w4.heap.size) w7 w3.heap.size A0 n0 c0 (lookF (fileB d 0)).2.1 D0 m0 e0 cells0 (lookF (fileB d 0)).2.2) := Lib.hid ((HG5.out.kp ⟨B56.out.size, fun i hi hl => B56.out.block i hl⟩).kp ⟨hbel.size, fun i hi _ => hblk i (by omega)⟩)
  have HG71 : Hid (Got (fun j => w5.heap.size ≤ j ∧ j < w6.heap.size) w7 w5.heap.size A1 n1 c1 (lookF (fileB d 1)).2.1 D1 m1 e1 cells1 (lookF (fileB d 1)).2.2) := Lib.hid (HG1.out.kp ⟨hbel.size, fun i hi _ => hblk i (by omega)⟩)
  have HO7 : Hid (OwB w7 w.heap.size A2 n2 c2 (firstB 1 s)) := Lib.hid (OwB.blockT (t := 67) (by decide) (HO5.out.below B56.out) hblk HB6.out)
  have HFB7 := Lib.hid hX7
  clear HG5 HG1 HO5 hblk hbel hX B56 B25 HB6 hX7 HLA HLB HF
  have hs37 : w3.heap.size ≤ w7.heap.size := by omega
  have hs46 : w4.heap.size ≤ w5.heap.size := hs5
  have hs67 : w6.heap.size ≤ w7.heap.size := hs7
  have hfbw : fb < w3.heap.size := by omega
  have H7 := Lib.hid (H.out.below B27.out)
  by_cases hgt : (lookF (fileB d 0)).1 < (lookF (fileB d 1)).1
  · have hgn : ¬ (lookF (fileB d 1)).1 = 0 := by
      have := (lookP_range (ps := P (fileB d 0))).1
      have h2 : (lookF (fileB d 0)).1 = (lookP (P (fileB d 0))).1 := rfl
      omega
    have hpk : pick d = 1 := if_pos hgt
    have HOPN : Hid (openR d s = oldR d 1) := Lib.hid (by rw [HOP.out, hpk, if_neg hgn])
    have HOLD : Hid (oldR d 1 = if (wipeR d 0 (fileB d 0).length).2 ≠ 0 then ⟨(wipeR d 0 (fileB d 0).length).1, (wipeR d 0 (fileB d 0).length).2, noV⟩ else ⟨(mendR (wipeR d 0 (fileB d 0).length).1 1 (E (fileB d 1) : Nat) (fileB d 1).length).1, (mendR (wipeR d 0 (fileB d 0).length).1 1 (E (fileB d 1) : Nat) (fileB d 1).length).2, ⟨1, (lookF (fileB d 1)).1, (lookF (fileB d 1)).2.1, (lookF (fileB d 1)).2.2⟩⟩) := Lib.hid rfl
    have hgb : ((lookF (fileB d 1)).1 == 0) = false := beq_eq_false_iff_ne.2 hgn
    have hgp : 0 < (lookF (fileB d 1)).1 := by have := (lookP_range (ps := P (fileB d 1))).1; have h2 : (lookF (fileB d 1)).1 = (lookP (P (fileB d 1))).1 := rfl; omega
    have HBV := Lib.hid (below_alloc (Below.refl w7.heap.size w7) (.cells #[.pointer (some ⟨p, 0, none⟩), .int .i64 1, .int .i64 0, .int .i64 0, .int .i64 0] 71))
    have hq8 : (w7.alloc (.cells #[.pointer (some ⟨p, 0, none⟩), .int .i64 1, .int .i64 0, .int .i64 0, .int .i64 0] 71)).heap[w7.heap.size]? = some (.cells #[.pointer (some ⟨p, 0, none⟩), .int .i64 1, .int .i64 0, .int .i64 0, .int .i64 0] 71 (0, 0)) := World.alloc_heap_new w7 _
    have hz8 : (w7.alloc (.cells #[.pointer (some ⟨p, 0, none⟩), .int .i64 1, .int .i64 0, .int .i64 0, .int .i64 0] 71)).heap.size = w7.heap.size + 1 := by simp
    have HX8 := Lib.hid (HBV.out.block fb (by omega))
    clear HBV
    have hf8 := HX8.out.trans HFB7.out
    unfold fcells at hf8
    obtain ⟨⟨q0, q1, q2, q3, q4, q5, q6, q7, q8, q9⟩, _⟩ := fbox hf8
    have hf7 := ((below_alloc (Below.refl w7.heap.size w7) (.cells #[.pointer (some ⟨p, 0, none⟩), .int .i64 0, .int .i64 0, .int .i64 0, .int .i64 0] 71)).block fb (by omega)).trans HFB7.out
    unfold fcells at hf7
    obtain ⟨⟨y0, _, _, _, _, y5, _, _, _, _⟩, _⟩ := fbox hf7
    go_wp2_with fail
    have hk9 : ((w7.alloc (.cells #[.pointer (some ⟨p, 0, none⟩), .int .i64 1, .int .i64 0, .int .i64 0, .int .i64 0] 71)).alloc (.cells #[.int .i64 (lookF (fileB d 1)).1, .slice A1 n1 c1, .slice D1 m1 e1, .int .i64 ((fileB d 1).length : Nat), .int .i64 (E (fileB d 1) : Nat)] 66)).heap[(w7.alloc (.cells #[.pointer (some ⟨p, 0, none⟩), .int .i64 1, .int .i64 0, .int .i64 0, .int .i64 0] 71)).heap.size]? = some (.cells #[.int .i64 (lookF (fileB d 1)).1, .slice A1 n1 c1, .slice D1 m1 e1, .int .i64 ((fileB d 1).length : Nat), .int .i64 (E (fileB d 1) : Nat)] 66 (0, 0)) := World.alloc_heap_new _ _
    rw [hz8] at hk9
    have B89 := Lib.hid (below_alloc (Below.refl (w7.alloc (.cells #[.pointer (some ⟨p, 0, none⟩), .int .i64 1, .int .i64 0, .int .i64 0, .int .i64 0] 71)).heap.size (w7.alloc (.cells #[.pointer (some ⟨p, 0, none⟩), .int .i64 1, .int .i64 0, .int .i64 0, .int .i64 0] 71))) (.cells #[.int .i64 (lookF (fileB d 1)).1, .slice A1 n1 c1, .slice D1 m1 e1, .int .i64 ((fileB d 1).length : Nat), .int .i64 (E (fileB d 1) : Nat)] 66))
    have hz9 : ((w7.alloc (.cells #[.pointer (some ⟨p, 0, none⟩), .int .i64 1, .int .i64 0, .int .i64 0, .int .i64 0] 71)).alloc (.cells #[.int .i64 (lookF (fileB d 1)).1, .slice A1 n1 c1, .slice D1 m1 e1, .int .i64 ((fileB d 1).length : Nat), .int .i64 (E (fileB d 1) : Nat)] 66)).heap.size = w7.heap.size + 1 + 1 := by simp
    have hq9 := (B89.out.block w7.heap.size (by omega)).trans hq8
    have hf9 := (B89.out.block fb (by omega)).trans (HX8.out.trans HFB7.out)
    have B79 : Hid (Below w7.heap.size w7 ((w7.alloc (.cells #[.pointer (some ⟨p, 0, none⟩), .int .i64 1, .int .i64 0, .int .i64 0, .int .i64 0] 71)).alloc (.cells #[.int .i64 (lookF (fileB d 1)).1, .slice A1 n1 c1, .slice D1 m1 e1, .int .i64 ((fileB d 1).length : Nat), .int .i64 (E (fileB d 1) : Nat)] 66))) := Lib.hid ((below_alloc (Below.refl w7.heap.size w7) _).trans (B89.out.mono (by omega)))
    clear B89 q0 q1 q2 q3 q4 q5 q6 q7 q8 q9 hf8 HX8 hq8 hz8 y0 y5 hf7
    generalize (w7.alloc (.cells #[.pointer (some ⟨p, 0, none⟩), .int .i64 1, .int .i64 0, .int .i64 0, .int .i64 0] 71)).alloc (.cells #[.int .i64 (lookF (fileB d 1)).1, .slice A1 n1 c1, .slice D1 m1 e1, .int .i64 ((fileB d 1).length : Nat), .int .i64 (E (fileB d 1) : Nat)] 66) = w9 at hk9 hz9 hq9 hf9 B79 ⊢
    have B29 := Lib.hid (B27.out.trans (B79.out.mono (by omega)))
    have H9 := Lib.hid (H7.out.below B79.out)
    have HGF : Hid (Got (fun j => w5.heap.size ≤ j ∧ j < w6.heap.size) w9 w5.heap.size A1 n1 c1 (lookF (fileB d 1)).2.1 D1 m1 e1 cells1 (lookF (fileB d 1)).2.2) := Lib.hid (HG71.out.kp ⟨B79.out.size, fun i hi hl => B79.out.block i hl⟩)
    have HQ9 : Hid (VB w9 w7.heap.size p 1 0 0 0) := Lib.hid ⟨hq9⟩
    have HK9 := Lib.hid hk9
    have HF9 := Lib.hid hf9
    have HFT : Hid (∀ i : Nat, w.heap.size ≤ i → ¬ Ft p cs i) := Lib.hid fun i hi hft => by have := (H.out.ft hft).2; omega
    clear HG70 HG71 H7 B79 HFB7 hk9 hq9 hf9 HO7
    have hqw : w.heap.size ≤ w7.heap.size := by omega
    generalize hqb : w7.heap.size = qb at *
    obtain ⟨_, v1, _⟩ := HQ9.out.cells
    have hf9 := HF9.out
    unfold fcells at hf9
    obtain ⟨⟨q0, q1, q2, q3, q4, q5, q6, q7, q8, q9⟩, _⟩ := fbox hf9
    have hwr0 : IntKind.i64.wrap 0 = 0 := by decide
    have hwr1 : IntKind.i64.wrap 1 = 1 := by decide
    go_still_tail 14, (by kernel_rfl)
    clear hwr0 hwr1
    have H10 := Lib.hid H9.out.drewd
    have S10 := Lib.hid (DStep.below (p := p) (cs := cs) B29.out.drew H.out.base_le)
    have hs10 : w9.drew.heap.size = w9.heap.size := rfl
    have HB10 : Hid (∀ i : Nat, w9.drew.heap[i]? = w9.heap[i]?) := Lib.hid fun i => rfl
    have HGD := Lib.hid (HGF.out.kp (w1 := w9.drew) ⟨Nat.le_refl _, fun i _ _ => rfl⟩)
    change wpList _ _ _ _ _ w9.drew
    generalize w9.drew = w10 at H10 S10 hs10 HB10 HGD ⊢
    clear v1 q0 q1 q2 q3 q4 q5 q6 q7 q8 q9 hf9
    have HW := Lib.hid (wipe_any H10.out (HK.out.fit (by omega) (by omega)) 0 ((fileB d 0).length : Nat))
    have HKW := Lib.hid (Ok.wipe HK.out 0 ((fileB d 0).length : Nat))
    by_cases hw : (wipeR d 0 ((fileB d 0).length : Nat)).2 = 0
    · have HOLD2 := Lib.hid (HOLD.out.trans (if_neg (fun h => h hw)))
      rw [hw] at HW
      generalize (wipeR d 0 ((fileB d 0).length : Nat)).1 = d1 at HW HKW HOLD2
      go_wp2_with fail
      refine HW.out.mono ?_
      rintro e w11 ⟨rfl, cs11, h11, s11⟩
      have hkeep : ∀ i : Nat, w.heap.size ≤ i → i < w9.heap.size → w11.heap[i]? = w9.heap[i]? := fun i h1 h2 => (s11.keep.2 i (HFT.out i h1) (by omega)).trans (HB10.out i)
      have HQ11 := Lib.hid (HQ9.out.block (hkeep qb hqw (by omega)))
      have hk11 := (hkeep (qb + 1) (by omega) (by omega)).trans HK9.out
      have hf11 := (hkeep fb (by omega) (by omega)).trans HF9.out
      have HNQ : Hid (¬ Ft p cs11 qb) := Lib.hid fun h => by
        rcases s11.foot qb h with h | h
        · exact HFT.out qb hqw h
        · omega
      have S11 := Lib.hid (S10.out.trans s11)
      have hs11 := s11.keep.1
      have H11 := Lib.hid h11
      have HG11 := Lib.hid (HGD.out.kp ⟨hs11, fun i hi hl => s11.keep.2 i (HFT.out i (by omega)) hl⟩)
      have HFT11 : Hid (∀ i : Nat, w.heap.size ≤ i → i < w9.heap.size → ¬ Ft p cs11 i) := Lib.hid fun i h1 h2 h => by
        rcases s11.foot i h with h | h
        · exact HFT.out i h1 h
        · omega
      have HK11 := Lib.hid hk11
      obtain ⟨⟨k0, k1, k2, k3, k4⟩, _⟩ := box_cells hk11
      unfold fcells at hf11
      obtain ⟨⟨q0, _, _, _, _, q5, _, _, _, _⟩, _⟩ := fbox hf11
      obtain ⟨_, v1, _⟩ := HQ11.out.cells
      clear h11 s11 hkeep hk11 hf11
      have HM := Lib.hid (mend_any H11.out HKW.out (by omega) (by omega) HQ11.out HNQ.out (lookF (fileB d 1)).1 A1 n1 c1 D1 m1 e1 ((fileB d 1).length : Nat) (E (fileB d 1) : Nat) (by omega) (by omega))
      unfold keptV at HM
      have HKM := Lib.hid (Ok.mend HKW.out 1 (E (fileB d 1) : Nat) ((fileB d 1).length : Nat))
      by_cases hm : (mendR d1 1 (E (fileB d 1) : Nat) ((fileB d 1).length : Nat)).2 = 0
      · have hm' := hm
        rw [hm] at HM
        have HEN : Hid ((openR d s).e = 0 ∧ (openR d s).d = (mendR d1 1 (E (fileB d 1) : Nat) ((fileB d 1).length : Nat)).1 ∧ (openR d s).v = ⟨1, (lookF (fileB d 1)).1, (lookF (fileB d 1)).2.1, (lookF (fileB d 1)).2.2⟩) := Lib.hid (by rw [HOPN.out, HOLD2.out]; exact ⟨hm', rfl, rfl⟩)
        have HPK := Lib.hid hpk
        clear hm hm' HOLD2 HOLD HOPN HOP hpk
        generalize (mendR d1 1 (E (fileB d 1) : Nat) ((fileB d 1).length : Nat)).1 = d2 at HM HKM HEN
        go_wp2_with fail
        refine HM.out.mono ?_
        rintro e w12 ⟨rfl, cs12, h12, s12⟩
        have hkeep : ∀ i : Nat, w.heap.size ≤ i → i < w9.heap.size → w12.heap[i]? = w11.heap[i]? := fun i h1 h2 => s12.keep.2 i (HFT11.out i h1 h2) (by omega)
        have HQ12 := Lib.hid (HQ11.out.block (hkeep qb hqw (by omega)))
        have hk12 := (hkeep (qb + 1) (by omega) (by omega)).trans HK11.out
        have hnq : ¬ Ft p cs12 qb := fun h => by
          rcases s12.foot qb h with h | h
          · exact HNQ.out h
          · omega
        have S12 := Lib.hid (S11.out.trans s12)
        have H12 := Lib.hid h12
        have HG12 := Lib.hid (HG11.out.kp ⟨s12.keep.1, fun i hi hl => s12.keep.2 i (HFT11.out i (by omega) (by omega)) hl⟩)
        have HFT12 : Hid (∀ i : Nat, w.heap.size ≤ i → i < w9.heap.size → ¬ Ft p cs12 i) := Lib.hid fun i h1 h2 h => by
          rcases s12.foot i h with h | h
          · exact HFT11.out i h1 h2 h
          · omega
        have HNQ := Lib.hid hnq
        have HK12 := Lib.hid hk12
        have hs12 := s12.keep.1
        clear h12 s12 hkeep hk12 hnq k0 k1 k2 k3 k4 q0 q5 v1
        obtain ⟨⟨k0, k1, k2, k3, k4⟩, _⟩ := box_cells HK12.out
        obtain ⟨_, _, v2, v3, _⟩ := HQ12.out.cells
        have fr2 := HQ12.out.free 2
        have fr3 := HQ12.out.free 3
        go_upto_region 29 with fail
        go_cut [] from 110 to 120 (fun wx => wx = ((w12.setCell ⟨qb, 2, none⟩ (.int .i64 (lookF (fileB d 1)).1)).setCell ⟨qb, 3, none⟩ (.int .i64 (m1 : Nat))).drew)
        case first =>
          go_region
          all_goals go_wp2_with fail
          all_goals go_meet
          all_goals (case rel => rfl)
        case rest =>
          have hblk : ∀ i : Nat, i ≠ qb → wc.heap[i]? = w12.heap[i]? := fun i hi => by
            rw [hcut]
            show ((w12.setCell ⟨qb, 2, none⟩ (.int .i64 (lookF (fileB d 1)).1)).setCell ⟨qb, 3, none⟩ (.int .i64 (m1 : Nat))).heap[i]? = _
            rw [Below.heap_setCell _ _ _ _ hi, Below.heap_setCell _ _ _ _ hi]
          have hbel : Below w.heap.size w12 wc := by
            rw [hcut]
            exact ((((Below.refl w.heap.size w12).setCell (p := ⟨qb, 2, none⟩) hqw _).setCell (p := ⟨qb, 3, none⟩) hqw _)).drew
          have hq13 : VB wc qb p 1 (lookF (fileB d 1)).1 (m1 : Nat) 0 := ⟨by
            rw [hcut]
            exact box_put (box_put HQ12.out.box 2 (.int .i64 (lookF (fileB d 1)).1)) 3 (.int .i64 (m1 : Nat))⟩
          clear hcut
          have HA13 : Hid (DAt wc base p cs12 d2) := Lib.hid (H12.out.blocks fun g hg => hblk g (fun e => HNQ.out (e ▸ hg)))
          have hsz12 := hbel.size
          have HS13 : Hid (DStep w base p cs wc cs12) := Lib.hid ⟨⟨Nat.le_trans S12.out.keep.1 hsz12, fun i hi hlt => (hblk i (by omega)).trans (S12.out.keep.2 i hi hlt)⟩, S12.out.foot, S12.out.bel.trans (hbel.mono H.out.base_le)⟩
          have HG13 := Lib.hid (HG12.out.kp (w1 := wc) ⟨hsz12, fun i hi _ => hblk i (by omega)⟩)
          have hk13 := (hblk (qb + 1) (by omega)).trans HK12.out
          have HQ13 := Lib.hid hq13
          clear hblk hbel hq13 k0 k1 k2 k3 k4 v2 v3 fr2 fr3
          obtain ⟨⟨_, k1, k2, _, _⟩, _⟩ := box_cells hk13
          clear hk13
          go_wp2_with fail
          go_quiet (fail)
          go_wp2
          obtain ⟨he, hd, hv⟩ := HEN.out
          have hD := pw_below_drewN (Below.refl wc.heap.size wc) nq
          have hml : (lookF (fileB d 1)).2.2.length = m1 := by rw [← HG13.out.each.len]; exact OwV.len HG13.out.rows
          refine bodyPost_ret (results_tmp4 rfl _ _ _) rfl ?_
          refine .inr ⟨he, qb, A1, n1, c1, D1, m1, e1, cells1, cs12, rfl, ?_, HS13.out.trans (DStep.below hD (Nat.le_trans H.out.base_le HS13.out.keep.1)), ?_, ⟨hqw, HNQ.out⟩, ?_⟩
          · rw [hd]; exact HA13.out.below hD
          · rw [hv]
            show VB _ qb p (((1 : Nat)) : Int) (lookF (fileB d 1)).1 (((lookF (fileB d 1)).2.2.length : Nat) : Int) 0
            rw [hml]
            exact HQ13.out.below hD
          · rw [hv]
            exact ⟨((HG13.out.kp (w1 := wc.drewN nq) ⟨hD.size, fun i _ hl => hD.block i hl⟩).less (by omega)).mono fun j hj => ⟨by omega, HFT12.out j (by omega) (by omega), by omega⟩, fun h => absurd (by rw [HPK.out] at h; exact h) hgn⟩
      · have hm1 : ((mendR d1 1 (E (fileB d 1) : Nat) ((fileB d 1).length : Nat)).2 == 0) = false := beq_eq_false_iff_ne.2 hm
        have hm2 : ((mendR d1 1 (E (fileB d 1) : Nat) ((fileB d 1).length : Nat)).2 != 0) = true := by simp [hm]
        have HEN : Hid ((openR d s).e = (mendR d1 1 (E (fileB d 1) : Nat) ((fileB d 1).length : Nat)).2 ∧ (openR d s).d = (mendR d1 1 (E (fileB d 1) : Nat) ((fileB d 1).length : Nat)).1 ∧ (openR d s).e ≠ 0) := Lib.hid (by rw [HOPN.out, HOLD2.out]; exact ⟨rfl, rfl, hm⟩)
        clear hm HOLD2 HOLD HOPN HOP hpk
        generalize mendR d1 1 (E (fileB d 1) : Nat) ((fileB d 1).length : Nat) = r2 at HM HKM HEN hm1 hm2
        go_wp2_with fail
        refine HM.out.mono ?_
        rintro e w12 hret
        have HRt := Lib.hid (RetD.from S11.out hret)
        obtain ⟨rfl, _⟩ := hret
        go_wp2
        refine bodyPost_ret (results_tmp4 rfl _ _ _) rfl ?_
        obtain ⟨he, hd, hv⟩ := HEN.out
        refine .inl ⟨hv, by rw [he]; rfl, ?_⟩
        rw [hd]
        exact HRt.out.2
    · have hw1 : ((wipeR d 0 ((fileB d 0).length : Nat)).2 == 0) = false := beq_eq_false_iff_ne.2 hw
      have hw2 : ((wipeR d 0 ((fileB d 0).length : Nat)).2 != 0) = true := by simp [hw]
      have HEN : Hid ((openR d s).e = (wipeR d 0 ((fileB d 0).length : Nat)).2 ∧ (openR d s).d = (wipeR d 0 ((fileB d 0).length : Nat)).1 ∧ (openR d s).e ≠ 0) := Lib.hid (by
        have h := HOPN.out.trans (HOLD.out.trans (if_pos hw))
        rw [h]
        exact ⟨rfl, rfl, hw⟩)
      clear hw HOLD HOPN HOP hpk
      generalize wipeR d 0 ((fileB d 0).length : Nat) = r2 at HW HKW HEN hw1 hw2
      go_wp2_with fail
      refine HW.out.mono ?_
      rintro e w11 hret
      have HRt := Lib.hid (RetD.from S10.out hret)
      obtain ⟨rfl, _⟩ := hret
      go_wp2
      refine bodyPost_ret (results_tmp4 rfl _ _ _) rfl ?_
      obtain ⟨he, hd, hv⟩ := HEN.out
      refine .inl ⟨hv, by rw [he]; rfl, ?_⟩
      rw [hd]
      exact HRt.out.2
  · by_cases hgn : (lookF (fileB d 0)).1 = 0
    · have hpk : pick d = 0 := if_neg hgt
      have HOPN : Hid (openR d s = newR d s) := Lib.hid (by rw [HOP.out, hpk, if_pos hgn])
      have HNEW : Hid (newR d s = if (wipeR d 0 ((fileB d 0).length : Nat)).2 ≠ 0 then ⟨(wipeR d 0 ((fileB d 0).length : Nat)).1, (wipeR d 0 ((fileB d 0).length : Nat)).2, noV⟩ else if (beginR (wipeR d 0 ((fileB d 0).length : Nat)).1 0 (firstB 1 s)).2 ≠ 0 then ⟨(beginR (wipeR d 0 ((fileB d 0).length : Nat)).1 0 (firstB 1 s)).1, (beginR (wipeR d 0 ((fileB d 0).length : Nat)).1 0 (firstB 1 s)).2, noV⟩ else ⟨(wipeR (beginR (wipeR d 0 ((fileB d 0).length : Nat)).1 0 (firstB 1 s)).1 1 ((fileB d 1).length : Nat)).1, (wipeR (beginR (wipeR d 0 ((fileB d 0).length : Nat)).1 0 (firstB 1 s)).1 1 ((fileB d 1).length : Nat)).2, ⟨0, 1, s, []⟩⟩) := Lib.hid rfl
      have HBV := Lib.hid (below_alloc (Below.refl w7.heap.size w7) (.cells #[.pointer (some ⟨p, 0, none⟩), .int .i64 0, .int .i64 0, .int .i64 0, .int .i64 0] 71))
      have hq8 : (w7.alloc (.cells #[.pointer (some ⟨p, 0, none⟩), .int .i64 0, .int .i64 0, .int .i64 0, .int .i64 0] 71)).heap[w7.heap.size]? = some (.cells #[.pointer (some ⟨p, 0, none⟩), .int .i64 0, .int .i64 0, .int .i64 0, .int .i64 0] 71 (0, 0)) := World.alloc_heap_new w7 _
      have hz8 : (w7.alloc (.cells #[.pointer (some ⟨p, 0, none⟩), .int .i64 0, .int .i64 0, .int .i64 0, .int .i64 0] 71)).heap.size = w7.heap.size + 1 := by simp
      have HX8 := Lib.hid (HBV.out.block fb (by omega))
      clear HBV
      have hf8 := HX8.out.trans HFB7.out
      unfold fcells at hf8
      obtain ⟨⟨q0, q1, q2, q3, q4, q5, q6, q7, q8, q9⟩, _⟩ := fbox hf8
      rw [hgn] at q0 hgt
      have HGN := Lib.hid hgn
      clear hgn
      go_upto_region 19 with fail
      have hk9 : ((w7.alloc (.cells #[.pointer (some ⟨p, 0, none⟩), .int .i64 0, .int .i64 0, .int .i64 0, .int .i64 0] 71)).alloc (.cells #[.int .i64 0, .slice A0 n0 c0, .slice D0 m0 e0, .int .i64 ((fileB d 0).length : Nat), .int .i64 (E (fileB d 0) : Nat)] 66)).heap[(w7.alloc (.cells #[.pointer (some ⟨p, 0, none⟩), .int .i64 0, .int .i64 0, .int .i64 0, .int .i64 0] 71)).heap.size]? = some (.cells #[.int .i64 0, .slice A0 n0 c0, .slice D0 m0 e0, .int .i64 ((fileB d 0).length : Nat), .int .i64 (E (fileB d 0) : Nat)] 66 (0, 0)) := World.alloc_heap_new _ _
      rw [hz8] at hk9
      have B89 := Lib.hid (below_alloc (Below.refl (w7.alloc (.cells #[.pointer (some ⟨p, 0, none⟩), .int .i64 0, .int .i64 0, .int .i64 0, .int .i64 0] 71)).heap.size (w7.alloc (.cells #[.pointer (some ⟨p, 0, none⟩), .int .i64 0, .int .i64 0, .int .i64 0, .int .i64 0] 71))) (.cells #[.int .i64 0, .slice A0 n0 c0, .slice D0 m0 e0, .int .i64 ((fileB d 0).length : Nat), .int .i64 (E (fileB d 0) : Nat)] 66))
      have hz9 : ((w7.alloc (.cells #[.pointer (some ⟨p, 0, none⟩), .int .i64 0, .int .i64 0, .int .i64 0, .int .i64 0] 71)).alloc (.cells #[.int .i64 0, .slice A0 n0 c0, .slice D0 m0 e0, .int .i64 ((fileB d 0).length : Nat), .int .i64 (E (fileB d 0) : Nat)] 66)).heap.size = w7.heap.size + 1 + 1 := by simp
      have hq9 := (B89.out.block w7.heap.size (by omega)).trans hq8
      have hf9 := (B89.out.block fb (by omega)).trans (HX8.out.trans HFB7.out)
      have B79 : Hid (Below w7.heap.size w7 ((w7.alloc (.cells #[.pointer (some ⟨p, 0, none⟩), .int .i64 0, .int .i64 0, .int .i64 0, .int .i64 0] 71)).alloc (.cells #[.int .i64 0, .slice A0 n0 c0, .slice D0 m0 e0, .int .i64 ((fileB d 0).length : Nat), .int .i64 (E (fileB d 0) : Nat)] 66))) := Lib.hid ((below_alloc (Below.refl w7.heap.size w7) _).trans (B89.out.mono (by omega)))
      clear B89 q0 q1 q2 q3 q4 q5 q6 q7 q8 q9 hf8 HX8 hq8 hz8
      generalize (w7.alloc (.cells #[.pointer (some ⟨p, 0, none⟩), .int .i64 0, .int .i64 0, .int .i64 0, .int .i64 0] 71)).alloc (.cells #[.int .i64 0, .slice A0 n0 c0, .slice D0 m0 e0, .int .i64 ((fileB d 0).length : Nat), .int .i64 (E (fileB d 0) : Nat)] 66) = w9 at hk9 hz9 hq9 hf9 B79 ⊢
      have B29 := Lib.hid (B27.out.trans (B79.out.mono (by omega)))
      have H9 := Lib.hid (H7.out.below B79.out)
      have HO9 := Lib.hid (HO7.out.below B79.out)
      have HQ9 : Hid (VB w9 w7.heap.size p 0 0 0 0) := Lib.hid ⟨hq9⟩
      have HK9 := Lib.hid hk9
      have HF9 := Lib.hid hf9
      have HFT : Hid (∀ i : Nat, w.heap.size ≤ i → ¬ Ft p cs i) := Lib.hid fun i hi hft => by have := (H.out.ft hft).2; omega
      clear HG70 HG71 H7 B79 HFB7 hk9 hq9 hf9 HO7
      have hqw : w.heap.size ≤ w7.heap.size := by omega
      generalize hqb : w7.heap.size = qb at *
      have hf9 := HF9.out
      unfold fcells at hf9
      obtain ⟨⟨q0, _, _, q3, _, q5, _, _, q8, _⟩, _⟩ := fbox hf9
      rw [HGN.out] at q0
      have S9 := Lib.hid (DStep.below (p := p) (cs := cs) B29.out H.out.base_le)
      have HW := Lib.hid (wipe_any H9.out (HK.out.fit (by omega) (by omega)) 0 ((fileB d 0).length : Nat))
      have HKW := Lib.hid (Ok.wipe HK.out 0 ((fileB d 0).length : Nat))
      -- what any steps on the disk leave
      have HST : Hid (∀ (w' : World) (cs' : Nat → Sl), DStep w9 base p cs w' cs' → (∀ i : Nat, w.heap.size ≤ i → i < w9.heap.size → w'.heap[i]? = w9.heap[i]?) ∧ (∀ i : Nat, w.heap.size ≤ i → i < w9.heap.size → ¬ Ft p cs' i)) := Lib.hid fun w' cs' st => ⟨fun i h1 h2 => st.keep.2 i (HFT.out i h1) h2, fun i h1 h2 h => by
        rcases st.foot i h with h | h
        · exact HFT.out i h1 h
        · omega⟩
      by_cases hw : (wipeR d 0 ((fileB d 0).length : Nat)).2 = 0
      · have HNEW := Lib.hid (HNEW.out.trans (if_neg (fun h => h hw)))
        rw [hw] at HW
        go_wp2_with fail
        refine HW.out.mono ?_
        rintro e w11 ⟨rfl, cs11, h11, s11⟩
        have HBG := Lib.hid (begin_any h11 HKW.out 0 A2 n2 c2 (firstB 1 s) (own_kp (P := fun g => ¬ Ft p cs g) HO9.out s11.keep (fun j hj => HFT.out j (OwB.blk HO9.out j hj).1)).rd (by omega) (by omega))
        have HKB := Lib.hid (Ok.begin_ HKW.out 0 (firstB 1 s))
        have S11 := Lib.hid s11
        clear h11 s11
        by_cases hbg : (beginR (wipeR d 0 ((fileB d 0).length : Nat)).1 0 (firstB 1 s)).2 = 0
        · have HNEW := Lib.hid (HNEW.out.trans (if_neg (fun h => h hbg)))
          rw [hbg] at HBG
          generalize (beginR (wipeR d 0 ((fileB d 0).length : Nat)).1 0 (firstB 1 s)).1 = d2 at HBG HKB HNEW
          go_wp2_with fail
          refine HBG.out.mono ?_
          rintro e w12 ⟨rfl, cs12, h12, s12⟩
          have S9X := Lib.hid (S11.out.trans s12)
          have ST := Lib.hid (S9.out.trans S9X.out)
          have HA := Lib.hid h12
          have hkx := ((HST.out w12 cs12 S9X.out).1 (qb + 1) (by omega) (by omega)).trans HK9.out
          have HNK : Hid (¬ Ft p cs12 (qb + 1)) := Lib.hid ((HST.out w12 cs12 S9X.out).2 (qb + 1) (by omega) (by omega))
          have HN12 := Lib.hid (HST.out w12 cs12 S9X.out).2
          have HK12 := Lib.hid (HST.out w12 cs12 S9X.out).1
          clear h12 s12
          have HKX := Lib.hid hkx
          obtain ⟨⟨k0, k1, k2, k3, k4⟩, hkf⟩ := box_cells hkx
          have hR := HSN.out w12 cs12 ST.out
          have HRX := Lib.hid hR
          have hszx : w9.heap.size ≤ w12.heap.size := S9X.out.keep.1
          clear hkx hR hkf
          go_wp2_with (first | (at_builtin; refine app (w0 := w12) (base := w12.heap.size) rfl (.tmp 71) (.tmp 72) rfl rfl rfl (OwB.lit0 w12 _ (Nat.le_refl _)) (HRX.out.below (below_alloc (Below.refl _ _) _)) ((Below.refl w12.heap.size w12).alloc (Nat.le_refl _) _) ?s13 ?l13 ?_; (case s13 => simp); (case l13 => omega); intro A13 n13 c13 w13 ho hb; rw [List.nil_append] at ho; have HOA := Lib.hid ho; have hla := ho.len; rw [hl] at hla; subst hla; have HBA := Lib.hid hb; have hsa := hb.size; have hkA := (hb.block (qb + 1) (by omega)).trans HKX.out; have HKA := Lib.hid hkA; clear k0 k1 k2 k3 k4; obtain ⟨⟨k0, k1, k2, k3, k4⟩, hkf⟩ := box_cells hkA; have kf0 := hkf 0; have kf1 := hkf 1; have kf2 := hkf 2; have kf3 := hkf 3; have kf4 := hkf 4; clear hkf hkA; clear ho hb) | fail)
          have hX := box_put (box_put (box_put (box_put (box_put HKA.out 0 (.int .i64 1)) 1 (.slice A13 n c13)) 2 (.slice none 0 0)) 3 (.int .i64 0)) 4 (.int .i64 0)
          have hblk := set5_blk (j := 0) w13 (qb + 1) (.int .i64 1) (.slice A13 n c13) (.slice none 0 0) (.int .i64 0) (.int .i64 0)
          have hbel := set5_below w13 w.heap.size (qb + 1) 0 (by omega) (.int .i64 1) (.slice A13 n c13) (.slice none 0 0) (.int .i64 0) (.int .i64 0)
          have HFIN := Lib.hid (after_kb HA.out ST.out (show w.heap.size ≤ qb + 1 by omega) HNK.out (fun i hi hlt => (hblk i hi).trans (HBA.out.block i hlt)) ((HBA.out.mono (Nat.le_trans H.out.base_le ST.out.keep.1)).trans (hbel.mono H.out.base_le)))
          have HOA14 := Lib.hid (OwB.blockT (t := 66) (by decide) HOA.out hblk HKA.out)
          have hs14 := hbel.size
          have hk9e : ∀ i : Nat, i ≠ qb + 1 → w.heap.size ≤ i → i < w9.heap.size → ((((((w13.setCell ⟨qb + 1, 0, none⟩ (.int .i64 1)).setCell ⟨qb + 1, 1, none⟩ (.slice A13 n c13)).setCell ⟨qb + 1, 2, none⟩ (.slice none 0 0)).setCell ⟨qb + 1, 3, none⟩ (.int .i64 0)).setCell ⟨qb + 1, 4, none⟩ (.int .i64 0))).heap[i]? = w9.heap[i]? := fun i h0 h1 h2 => (hblk i h0).trans ((HBA.out.block i (by omega)).trans (HK12.out i h1 h2))
          have HOBK := Lib.hid (OwB.blk HOA.out)
          clear hblk hbel k0 k1 k2 k3 k4 kf0 kf1 kf2 kf3 kf4 HBA HKA HOA
          generalize ((((w13.setCell ⟨qb + 1, 0, none⟩ (.int .i64 1)).setCell ⟨qb + 1, 1, none⟩ (.slice A13 n c13)).setCell ⟨qb + 1, 2, none⟩ (.slice none 0 0)).setCell ⟨qb + 1, 3, none⟩ (.int .i64 0)).setCell ⟨qb + 1, 4, none⟩ (.int .i64 0) = w14 at hX HFIN HOA14 hs14 hk9e ⊢
          have hk14 : w14.heap[qb + 1]? = some (.cells #[.int .i64 1, .slice A13 n c13, .slice none 0 0, .int .i64 0, .int .i64 0] 66 (0, 0)) := hX
          have HQ14 := Lib.hid (HQ9.out.block (hk9e qb (by omega) hqw (by omega)))
          have hf14 := (hk9e fb (by omega) (by omega) (by omega)).trans HF9.out
          have HK14 := Lib.hid hk14
          have HF14 := Lib.hid hf14
          clear hX hk14 hf14 hk9e q0 q3 q5 q8
          obtain ⟨_, v1, _⟩ := HQ14.out.cells
          have hf14 := HF14.out
          unfold fcells at hf14
          obtain ⟨⟨q0, _, _, q3, _, q5, _, _, q8, _⟩, _⟩ := fbox hf14
          rw [HGN.out] at q0
          have hwr0 : IntKind.i64.wrap 0 = 0 := by decide
          have hwr1 : IntKind.i64.wrap 1 = 1 := by decide
          go_still_tail 14, (by kernel_rfl)
          clear hwr0 hwr1
          have H15 := Lib.hid HFIN.out.1.drewd
          have S15 := Lib.hid HFIN.out.2.drewd
          have hs15 : w14.drew.heap.size = w14.heap.size := rfl
          have HB15 : Hid (∀ i : Nat, w14.drew.heap[i]? = w14.heap[i]?) := Lib.hid fun i => rfl
          have HOA15 := Lib.hid (HOA14.out.below (Below.refl _ w14).drew)
          change wpList _ _ _ _ _ w14.drew
          generalize w14.drew = w15 at H15 S15 hs15 HB15 HOA15 ⊢
          clear v1 q0 q3 q5 q8 hf14
          have hfbl := HFB.out
          have HV := Lib.hid (wipe_any H15.out (HKB.out.fit (by omega) (by omega)) 1 ((fileB d 1).length : Nat))
          have HKV := Lib.hid (Ok.wipe HKB.out 1 ((fileB d 1).length : Nat))
          have HEN : Hid ((openR d s).e = (wipeR d2 1 ((fileB d 1).length : Nat)).2 ∧ (openR d s).d = (wipeR d2 1 ((fileB d 1).length : Nat)).1 ∧ (openR d s).v = ⟨0, 1, s, []⟩) := Lib.hid (by rw [HOPN.out, HNEW.out]; exact ⟨rfl, rfl, rfl⟩)
          clear HNEW HOPN HOP hpk
          by_cases hv0 : (wipeR d2 1 ((fileB d 1).length : Nat)).2 = 0
          · rw [hv0] at HEN HV
            generalize (wipeR d2 1 ((fileB d 1).length : Nat)).1 = d3 at HV HKV HEN
            clear hv0
            go_wp2_with fail
            refine HV.out.mono ?_
            rintro e w16 ⟨rfl, cs16, h16, s16⟩
            have hkeep : ∀ i : Nat, w.heap.size ≤ i → i < w9.heap.size → w16.heap[i]? = w14.heap[i]? := fun i h1 h2 => (s16.keep.2 i (HN12.out i h1 h2) (by omega)).trans (HB15.out i)
            have hft16 : ∀ i : Nat, w.heap.size ≤ i → i < w14.heap.size → ¬ Ft p cs12 i → ¬ Ft p cs16 i := fun i h1 h2 h3 h => by
              rcases s16.foot i h with h | h
              · exact h3 h
              · omega
            have HQ16 := Lib.hid (HQ14.out.block (hkeep qb hqw (by omega)))
            have hk16 := (hkeep (qb + 1) (by omega) (by omega)).trans HK14.out
            have hf16 := (hkeep fb (by omega) (by omega)).trans HF14.out
            have HNQ : Hid (¬ Ft p cs16 qb) := Lib.hid (hft16 qb hqw (by omega) (HN12.out qb hqw (by omega)))
            have S16 := Lib.hid (S15.out.trans s16)
            have H16 := Lib.hid h16
            have HFTA : Hid (∀ j, (Value.slice A13 n c13).ownBlock = some j → w12.heap.size ≤ j ∧ ¬ Ft p cs12 j ∧ ¬ Ft p cs16 j) := Lib.hid fun j hj => by
              have h1 := HOBK.out j hj
              have h2 : ¬ Ft p cs12 j := fun h => by have := (HA.out.ft h).2; omega
              exact ⟨h1.1, h2, hft16 j (by omega) (by omega) h2⟩
            have HOA16 := Lib.hid (own_kp HOA15.out s16.keep (fun j hj => (HFTA.out j hj).2.1))
            have HK16 := Lib.hid hk16
            have hs16 := s16.keep.1
            clear h16 s16 hkeep hft16 hk16
            obtain ⟨⟨k0, k1, k2, k3, k4⟩, _⟩ := box_cells HK16.out
            unfold fcells at hf16
            obtain ⟨⟨q0, _, _, _, _, q5, _, _, _, _⟩, _⟩ := fbox hf16
            rw [HGN.out] at q0
            obtain ⟨_, v1, v2, v3, _⟩ := HQ16.out.cells
            have fr2 := HQ16.out.free 2
            have fr3 := HQ16.out.free 3
            go_upto_region 29 with fail
            go_cut [] from 110 to 120 (fun wx => wx = ((w16.setCell ⟨qb, 2, none⟩ (.int .i64 1)).setCell ⟨qb, 3, none⟩ (.int .i64 0)).drew)
            case first =>
              go_region
              all_goals go_wp2_with fail
              all_goals go_meet
              all_goals (case rel => rfl)
            case rest =>
              have hblk : ∀ i : Nat, i ≠ qb → wc.heap[i]? = w16.heap[i]? := fun i hi => by
                rw [hcut]
                show ((w16.setCell ⟨qb, 2, none⟩ (.int .i64 1)).setCell ⟨qb, 3, none⟩ (.int .i64 0)).heap[i]? = _
                rw [Below.heap_setCell _ _ _ _ hi, Below.heap_setCell _ _ _ _ hi]
              have hbel : Below w.heap.size w16 wc := by
                rw [hcut]
                exact ((((Below.refl w.heap.size w16).setCell (p := ⟨qb, 2, none⟩) hqw _).setCell (p := ⟨qb, 3, none⟩) hqw _)).drew
              have hq17 : VB wc qb p 0 1 0 0 := ⟨by
                rw [hcut]
                exact box_put (box_put HQ16.out.box 2 (.int .i64 1)) 3 (.int .i64 0)⟩
              clear hcut
              have HFN := Lib.hid (after_kb H16.out S16.out hqw HNQ.out (fun i hi _ => hblk i hi) (hbel.mono H.out.base_le))
              have hszc := hbel.size
              have HOAC : Hid (OwB wc w12.heap.size A13 n c13 s) := Lib.hid (own_kp (P := fun i => i ≠ qb) HOA16.out ⟨hszc, fun i hi _ => hblk i hi⟩ (fun j hj => by have := (HFTA.out j hj).1; omega))
              have hk17 := (hblk (qb + 1) (by omega)).trans HK16.out
              have HQ17 := Lib.hid hq17
              clear hblk hbel hq17 k0 k1 k2 k3 k4 v1 v2 v3 fr2 fr3 q0 q5
              obtain ⟨⟨_, k1, k2, _, _⟩, _⟩ := box_cells hk17
              clear hk17
              go_wp2_with fail
              go_quiet (fail)
              go_wp2
              obtain ⟨he, hd, hv⟩ := HEN.out
              have hD := pw_below_drewN (Below.refl wc.heap.size wc) nq
              refine bodyPost_ret (results_tmp4 rfl _ _ _) rfl ?_
              refine .inr ⟨he, qb, A13, n, c13, none, 0, 0, [], cs16, rfl, ?_, HFN.out.2.trans (DStep.below hD (Nat.le_trans H.out.base_le HFN.out.2.keep.1)), ?_, ⟨hqw, HNQ.out⟩, ?_⟩
              · rw [hd]; exact HFN.out.1.below hD
              · rw [hv]
                exact HQ17.out.below hD
              · rw [hv]
                have hpj : ∀ j, (Value.slice A13 n c13).ownBlock = some j → w.heap.size ≤ j ∧ ¬ Ft p cs16 j ∧ j ≠ qb := fun j hj => by
                  have h := HFTA.out j hj
                  exact ⟨by omega, h.2.2, by omega⟩
                exact ⟨⟨⟨0, A13, n, c13, s, (HOAC.out.below hD).less (by omega), fun _ _ h => h, rfl, HOAC.out.cap, hpj⟩, OwV.nil _ _, (fun j hj => by cases hj), Rws.nil _ _, (fun i j a n c hi => by simp at hi)⟩, fun _ => ⟨(HOAC.out.below hD).less (by omega), hpj⟩⟩
          · have hv1 : ((wipeR d2 1 ((fileB d 1).length : Nat)).2 == 0) = false := beq_eq_false_iff_ne.2 hv0
            have hv2 : ((wipeR d2 1 ((fileB d 1).length : Nat)).2 != 0) = true := by simp [hv0]
            have HV0 := Lib.hid hv0
            clear hv0
            generalize wipeR d2 1 ((fileB d 1).length : Nat) = r2 at HV HKV HEN hv1 hv2 HV0
            go_wp2_with fail
            refine HV.out.mono ?_
            rintro e w16 hret
            have HRt := Lib.hid (RetD.from S15.out hret)
            obtain ⟨rfl, _⟩ := hret
            go_wp2
            refine bodyPost_ret (results_tmp4 rfl _ _ _) rfl ?_
            obtain ⟨he, hd, _⟩ := HEN.out
            refine .inl ⟨by rw [he]; exact HV0.out, by rw [he]; rfl, ?_⟩
            rw [hd]
            exact HRt.out.2
        · have hb1 : ((beginR (wipeR d 0 ((fileB d 0).length : Nat)).1 0 (firstB 1 s)).2 == 0) = false := beq_eq_false_iff_ne.2 hbg
          have hb2 : ((beginR (wipeR d 0 ((fileB d 0).length : Nat)).1 0 (firstB 1 s)).2 != 0) = true := by simp [hbg]
          have HEN : Hid ((openR d s).e = (beginR (wipeR d 0 ((fileB d 0).length : Nat)).1 0 (firstB 1 s)).2 ∧ (openR d s).d = (beginR (wipeR d 0 ((fileB d 0).length : Nat)).1 0 (firstB 1 s)).1 ∧ (openR d s).e ≠ 0) := Lib.hid (by rw [HOPN.out, HNEW.out, if_pos hbg]; exact ⟨rfl, rfl, hbg⟩)
          clear hbg HNEW HOPN HOP hpk
          generalize beginR (wipeR d 0 ((fileB d 0).length : Nat)).1 0 (firstB 1 s) = r2 at HBG HKB HEN hb1 hb2
          go_wp2_with fail
          refine HBG.out.mono ?_
          rintro e w12 ⟨rfl, cs12, h12, s12⟩
          have S9X := Lib.hid (S11.out.trans s12)
          have ST := Lib.hid (S9.out.trans S9X.out)
          have HA := Lib.hid h12
          have hkx := ((HST.out w12 cs12 S9X.out).1 (qb + 1) (by omega) (by omega)).trans HK9.out
          have HNK : Hid (¬ Ft p cs12 (qb + 1)) := Lib.hid ((HST.out w12 cs12 S9X.out).2 (qb + 1) (by omega) (by omega))
          clear h12 s12
          have HKX := Lib.hid hkx
          obtain ⟨⟨k0, k1, k2, k3, k4⟩, hkf⟩ := box_cells hkx
          have hR := HSN.out w12 cs12 ST.out
          have HRX := Lib.hid hR
          have hszx : w9.heap.size ≤ w12.heap.size := S9X.out.keep.1
          clear hkx hR hkf
          go_wp2_with (first | (at_builtin; refine app (w0 := w12) (base := w12.heap.size) rfl (.tmp 71) (.tmp 72) rfl rfl rfl (OwB.lit0 w12 _ (Nat.le_refl _)) (HRX.out.below (below_alloc (Below.refl _ _) _)) ((Below.refl w12.heap.size w12).alloc (Nat.le_refl _) _) ?s13 ?l13 ?_; (case s13 => simp); (case l13 => omega); intro A13 n13 c13 w13 ho hb; rw [List.nil_append] at ho; have HOA := Lib.hid ho; have hla := ho.len; rw [hl] at hla; subst hla; have HBA := Lib.hid hb; have hsa := hb.size; have hkA := (hb.block (qb + 1) (by omega)).trans HKX.out; have HKA := Lib.hid hkA; clear k0 k1 k2 k3 k4; obtain ⟨⟨k0, k1, k2, k3, k4⟩, hkf⟩ := box_cells hkA; have kf0 := hkf 0; have kf1 := hkf 1; have kf2 := hkf 2; have kf3 := hkf 3; have kf4 := hkf 4; clear hkf hkA; clear ho hb) | fail)
          have hX := box_put (box_put (box_put (box_put (box_put HKA.out 0 (.int .i64 1)) 1 (.slice A13 n c13)) 2 (.slice none 0 0)) 3 (.int .i64 0)) 4 (.int .i64 0)
          have hblk := set5_blk (j := 0) w13 (qb + 1) (.int .i64 1) (.slice A13 n c13) (.slice none 0 0) (.int .i64 0) (.int .i64 0)
          have hbel := set5_below w13 w.heap.size (qb + 1) 0 (by omega) (.int .i64 1) (.slice A13 n c13) (.slice none 0 0) (.int .i64 0) (.int .i64 0)
          have HFIN := Lib.hid (after_kb HA.out ST.out (show w.heap.size ≤ qb + 1 by omega) HNK.out (fun i hi hlt => (hblk i hi).trans (HBA.out.block i hlt)) ((HBA.out.mono (Nat.le_trans H.out.base_le ST.out.keep.1)).trans (hbel.mono H.out.base_le)))
          clear hX hblk hbel
          generalize ((((w13.setCell ⟨qb + 1, 0, none⟩ (.int .i64 1)).setCell ⟨qb + 1, 1, none⟩ (.slice A13 n c13)).setCell ⟨qb + 1, 2, none⟩ (.slice none 0 0)).setCell ⟨qb + 1, 3, none⟩ (.int .i64 0)).setCell ⟨qb + 1, 4, none⟩ (.int .i64 0) = wy at HFIN
          refine bodyPost_ret (results_tmp4 rfl _ _ _) rfl ?_
          obtain ⟨he, hd, hv⟩ := HEN.out
          refine .inl ⟨hv, by rw [he]; rfl, ?_⟩
          rw [hd]
          exact ⟨cs12, HFIN.out.1, HFIN.out.2⟩
      · have hw1 : ((wipeR d 0 ((fileB d 0).length : Nat)).2 == 0) = false := beq_eq_false_iff_ne.2 hw
        have hw2 : ((wipeR d 0 ((fileB d 0).length : Nat)).2 != 0) = true := by simp [hw]
        have HEN : Hid ((openR d s).e = (wipeR d 0 ((fileB d 0).length : Nat)).2 ∧ (openR d s).d = (wipeR d 0 ((fileB d 0).length : Nat)).1 ∧ (openR d s).e ≠ 0) := Lib.hid (by rw [HOPN.out, HNEW.out, if_pos hw]; exact ⟨rfl, rfl, hw⟩)
        clear hw HNEW HOPN HOP hpk
        generalize wipeR d 0 ((fileB d 0).length : Nat) = r2 at HW HKW HEN hw1 hw2
        go_wp2_with fail
        refine HW.out.mono ?_
        rintro e w11 ⟨rfl, cs11, h11, s11⟩
        have S9X := Lib.hid s11
        have ST := Lib.hid (S9.out.trans S9X.out)
        have HA := Lib.hid h11
        have hkx := ((HST.out w11 cs11 S9X.out).1 (qb + 1) (by omega) (by omega)).trans HK9.out
        have HNK : Hid (¬ Ft p cs11 (qb + 1)) := Lib.hid ((HST.out w11 cs11 S9X.out).2 (qb + 1) (by omega) (by omega))
        clear h11 s11
        have HKX := Lib.hid hkx
        obtain ⟨⟨k0, k1, k2, k3, k4⟩, hkf⟩ := box_cells hkx
        have hR := HSN.out w11 cs11 ST.out
        have HRX := Lib.hid hR
        have hszx : w9.heap.size ≤ w11.heap.size := S9X.out.keep.1
        clear hkx hR hkf
        go_wp2_with (first | (at_builtin; refine app (w0 := w11) (base := w11.heap.size) rfl (.tmp 71) (.tmp 72) rfl rfl rfl (OwB.lit0 w11 _ (Nat.le_refl _)) (HRX.out.below (below_alloc (Below.refl _ _) _)) ((Below.refl w11.heap.size w11).alloc (Nat.le_refl _) _) ?s13 ?l13 ?_; (case s13 => simp); (case l13 => omega); intro A13 n13 c13 w13 ho hb; rw [List.nil_append] at ho; have HOA := Lib.hid ho; have hla := ho.len; rw [hl] at hla; subst hla; have HBA := Lib.hid hb; have hsa := hb.size; have hkA := (hb.block (qb + 1) (by omega)).trans HKX.out; have HKA := Lib.hid hkA; clear k0 k1 k2 k3 k4; obtain ⟨⟨k0, k1, k2, k3, k4⟩, hkf⟩ := box_cells hkA; have kf0 := hkf 0; have kf1 := hkf 1; have kf2 := hkf 2; have kf3 := hkf 3; have kf4 := hkf 4; clear hkf hkA; clear ho hb) | fail)
        have hX := box_put (box_put (box_put (box_put (box_put HKA.out 0 (.int .i64 1)) 1 (.slice A13 n c13)) 2 (.slice none 0 0)) 3 (.int .i64 0)) 4 (.int .i64 0)
        have hblk := set5_blk (j := 0) w13 (qb + 1) (.int .i64 1) (.slice A13 n c13) (.slice none 0 0) (.int .i64 0) (.int .i64 0)
        have hbel := set5_below w13 w.heap.size (qb + 1) 0 (by omega) (.int .i64 1) (.slice A13 n c13) (.slice none 0 0) (.int .i64 0) (.int .i64 0)
        have HFIN := Lib.hid (after_kb HA.out ST.out (show w.heap.size ≤ qb + 1 by omega) HNK.out (fun i hi hlt => (hblk i hi).trans (HBA.out.block i hlt)) ((HBA.out.mono (Nat.le_trans H.out.base_le ST.out.keep.1)).trans (hbel.mono H.out.base_le)))
        clear hX hblk hbel
        generalize ((((w13.setCell ⟨qb + 1, 0, none⟩ (.int .i64 1)).setCell ⟨qb + 1, 1, none⟩ (.slice A13 n c13)).setCell ⟨qb + 1, 2, none⟩ (.slice none 0 0)).setCell ⟨qb + 1, 3, none⟩ (.int .i64 0)).setCell ⟨qb + 1, 4, none⟩ (.int .i64 0) = wy at HFIN
        refine bodyPost_ret (results_tmp4 rfl _ _ _) rfl ?_
        obtain ⟨he, hd, hv⟩ := HEN.out
        refine .inl ⟨hv, by rw [he]; rfl, ?_⟩
        rw [hd]
        exact ⟨cs11, HFIN.out.1, HFIN.out.2⟩
    · have hpk : pick d = 0 := if_neg hgt
      have HOPN : Hid (openR d s = oldR d 0) := Lib.hid (by rw [HOP.out, hpk, if_neg hgn])
      have HOLD : Hid (oldR d 0 = if (wipeR d 1 (fileB d 1).length).2 ≠ 0 then ⟨(wipeR d 1 (fileB d 1).length).1, (wipeR d 1 (fileB d 1).length).2, noV⟩ else ⟨(mendR (wipeR d 1 (fileB d 1).length).1 0 (E (fileB d 0) : Nat) (fileB d 0).length).1, (mendR (wipeR d 1 (fileB d 1).length).1 0 (E (fileB d 0) : Nat) (fileB d 0).length).2, ⟨0, (lookF (fileB d 0)).1, (lookF (fileB d 0)).2.1, (lookF (fileB d 0)).2.2⟩⟩) := Lib.hid rfl
      have hgb : ((lookF (fileB d 0)).1 == 0) = false := beq_eq_false_iff_ne.2 hgn
      have hgp : 0 < (lookF (fileB d 0)).1 := by have := (lookP_range (ps := P (fileB d 0))).1; have h2 : (lookF (fileB d 0)).1 = (lookP (P (fileB d 0))).1 := rfl; omega
      have HBV := Lib.hid (below_alloc (Below.refl w7.heap.size w7) (.cells #[.pointer (some ⟨p, 0, none⟩), .int .i64 0, .int .i64 0, .int .i64 0, .int .i64 0] 71))
      have hq8 : (w7.alloc (.cells #[.pointer (some ⟨p, 0, none⟩), .int .i64 0, .int .i64 0, .int .i64 0, .int .i64 0] 71)).heap[w7.heap.size]? = some (.cells #[.pointer (some ⟨p, 0, none⟩), .int .i64 0, .int .i64 0, .int .i64 0, .int .i64 0] 71 (0, 0)) := World.alloc_heap_new w7 _
      have hz8 : (w7.alloc (.cells #[.pointer (some ⟨p, 0, none⟩), .int .i64 0, .int .i64 0, .int .i64 0, .int .i64 0] 71)).heap.size = w7.heap.size + 1 := by simp
      have HX8 := Lib.hid (HBV.out.block fb (by omega))
      clear HBV
      have hf8 := HX8.out.trans HFB7.out
      unfold fcells at hf8
      obtain ⟨⟨q0, q1, q2, q3, q4, q5, q6, q7, q8, q9⟩, _⟩ := fbox hf8
      go_wp2_with fail
      have hk9 : ((w7.alloc (.cells #[.pointer (some ⟨p, 0, none⟩), .int .i64 0, .int .i64 0, .int .i64 0, .int .i64 0] 71)).alloc (.cells #[.int .i64 (lookF (fileB d 0)).1, .slice A0 n0 c0, .slice D0 m0 e0, .int .i64 ((fileB d 0).length : Nat), .int .i64 (E (fileB d 0) : Nat)] 66)).heap[(w7.alloc (.cells #[.pointer (some ⟨p, 0, none⟩), .int .i64 0, .int .i64 0, .int .i64 0, .int .i64 0] 71)).heap.size]? = some (.cells #[.int .i64 (lookF (fileB d 0)).1, .slice A0 n0 c0, .slice D0 m0 e0, .int .i64 ((fileB d 0).length : Nat), .int .i64 (E (fileB d 0) : Nat)] 66 (0, 0)) := World.alloc_heap_new _ _
      rw [hz8] at hk9
      have B89 := Lib.hid (below_alloc (Below.refl (w7.alloc (.cells #[.pointer (some ⟨p, 0, none⟩), .int .i64 0, .int .i64 0, .int .i64 0, .int .i64 0] 71)).heap.size (w7.alloc (.cells #[.pointer (some ⟨p, 0, none⟩), .int .i64 0, .int .i64 0, .int .i64 0, .int .i64 0] 71))) (.cells #[.int .i64 (lookF (fileB d 0)).1, .slice A0 n0 c0, .slice D0 m0 e0, .int .i64 ((fileB d 0).length : Nat), .int .i64 (E (fileB d 0) : Nat)] 66))
      have hz9 : ((w7.alloc (.cells #[.pointer (some ⟨p, 0, none⟩), .int .i64 0, .int .i64 0, .int .i64 0, .int .i64 0] 71)).alloc (.cells #[.int .i64 (lookF (fileB d 0)).1, .slice A0 n0 c0, .slice D0 m0 e0, .int .i64 ((fileB d 0).length : Nat), .int .i64 (E (fileB d 0) : Nat)] 66)).heap.size = w7.heap.size + 1 + 1 := by simp
      have hq9 := (B89.out.block w7.heap.size (by omega)).trans hq8
      have hf9 := (B89.out.block fb (by omega)).trans (HX8.out.trans HFB7.out)
      have B79 : Hid (Below w7.heap.size w7 ((w7.alloc (.cells #[.pointer (some ⟨p, 0, none⟩), .int .i64 0, .int .i64 0, .int .i64 0, .int .i64 0] 71)).alloc (.cells #[.int .i64 (lookF (fileB d 0)).1, .slice A0 n0 c0, .slice D0 m0 e0, .int .i64 ((fileB d 0).length : Nat), .int .i64 (E (fileB d 0) : Nat)] 66))) := Lib.hid ((below_alloc (Below.refl w7.heap.size w7) _).trans (B89.out.mono (by omega)))
      clear B89 q0 q1 q2 q3 q4 q5 q6 q7 q8 q9 hf8 HX8 hq8 hz8
      generalize (w7.alloc (.cells #[.pointer (some ⟨p, 0, none⟩), .int .i64 0, .int .i64 0, .int .i64 0, .int .i64 0] 71)).alloc (.cells #[.int .i64 (lookF (fileB d 0)).1, .slice A0 n0 c0, .slice D0 m0 e0, .int .i64 ((fileB d 0).length : Nat), .int .i64 (E (fileB d 0) : Nat)] 66) = w9 at hk9 hz9 hq9 hf9 B79 ⊢
      have B29 := Lib.hid (B27.out.trans (B79.out.mono (by omega)))
      have H9 := Lib.hid (H7.out.below B79.out)
      have HGF : Hid (Got (fun j => w3.heap.size ≤ j ∧ j < w4.heap.size) w9 w3.heap.size A0 n0 c0 (lookF (fileB d 0)).2.1 D0 m0 e0 cells0 (lookF (fileB d 0)).2.2) := Lib.hid (HG70.out.kp ⟨B79.out.size, fun i hi hl => B79.out.block i hl⟩)
      have HQ9 : Hid (VB w9 w7.heap.size p 0 0 0 0) := Lib.hid ⟨hq9⟩
      have HK9 := Lib.hid hk9
      have HF9 := Lib.hid hf9
      have HFT : Hid (∀ i : Nat, w.heap.size ≤ i → ¬ Ft p cs i) := Lib.hid fun i hi hft => by have := (H.out.ft hft).2; omega
      clear HG70 HG71 H7 B79 HFB7 hk9 hq9 hf9 HO7
      have hqw : w.heap.size ≤ w7.heap.size := by omega
      generalize hqb : w7.heap.size = qb at *
      obtain ⟨_, v1, _⟩ := HQ9.out.cells
      have hf9 := HF9.out
      unfold fcells at hf9
      obtain ⟨⟨q0, q1, q2, q3, q4, q5, q6, q7, q8, q9⟩, _⟩ := fbox hf9
      have hwr0 : IntKind.i64.wrap 0 = 0 := by decide
      have hwr1 : IntKind.i64.wrap 1 = 1 := by decide
      go_still_tail 14, (by kernel_rfl)
      clear hwr0 hwr1
      have H10 := Lib.hid H9.out.drewd
      have S10 := Lib.hid (DStep.below (p := p) (cs := cs) B29.out.drew H.out.base_le)
      have hs10 : w9.drew.heap.size = w9.heap.size := rfl
      have HB10 : Hid (∀ i : Nat, w9.drew.heap[i]? = w9.heap[i]?) := Lib.hid fun i => rfl
      have HGD := Lib.hid (HGF.out.kp (w1 := w9.drew) ⟨Nat.le_refl _, fun i _ _ => rfl⟩)
      change wpList _ _ _ _ _ w9.drew
      generalize w9.drew = w10 at H10 S10 hs10 HB10 HGD ⊢
      clear v1 q0 q1 q2 q3 q4 q5 q6 q7 q8 q9 hf9
      have HW := Lib.hid (wipe_any H10.out (HK.out.fit (by omega) (by omega)) 1 ((fileB d 1).length : Nat))
      have HKW := Lib.hid (Ok.wipe HK.out 1 ((fileB d 1).length : Nat))
      by_cases hw : (wipeR d 1 ((fileB d 1).length : Nat)).2 = 0
      · have HOLD2 := Lib.hid (HOLD.out.trans (if_neg (fun h => h hw)))
        rw [hw] at HW
        generalize (wipeR d 1 ((fileB d 1).length : Nat)).1 = d1 at HW HKW HOLD2
        go_wp2_with fail
        refine HW.out.mono ?_
        rintro e w11 ⟨rfl, cs11, h11, s11⟩
        have hkeep : ∀ i : Nat, w.heap.size ≤ i → i < w9.heap.size → w11.heap[i]? = w9.heap[i]? := fun i h1 h2 => (s11.keep.2 i (HFT.out i h1) (by omega)).trans (HB10.out i)
        have HQ11 := Lib.hid (HQ9.out.block (hkeep qb hqw (by omega)))
        have hk11 := (hkeep (qb + 1) (by omega) (by omega)).trans HK9.out
        have hf11 := (hkeep fb (by omega) (by omega)).trans HF9.out
        have HNQ : Hid (¬ Ft p cs11 qb) := Lib.hid fun h => by
          rcases s11.foot qb h with h | h
          · exact HFT.out qb hqw h
          · omega
        have S11 := Lib.hid (S10.out.trans s11)
        have hs11 := s11.keep.1
        have H11 := Lib.hid h11
        have HG11 := Lib.hid (HGD.out.kp ⟨hs11, fun i hi hl => s11.keep.2 i (HFT.out i (by omega)) hl⟩)
        have HFT11 : Hid (∀ i : Nat, w.heap.size ≤ i → i < w9.heap.size → ¬ Ft p cs11 i) := Lib.hid fun i h1 h2 h => by
          rcases s11.foot i h with h | h
          · exact HFT.out i h1 h
          · omega
        have HK11 := Lib.hid hk11
        obtain ⟨⟨k0, k1, k2, k3, k4⟩, _⟩ := box_cells hk11
        unfold fcells at hf11
        obtain ⟨⟨q0, _, _, _, _, q5, _, _, _, _⟩, _⟩ := fbox hf11
        obtain ⟨_, v1, _⟩ := HQ11.out.cells
        clear h11 s11 hkeep hk11 hf11
        have HM := Lib.hid (mend_any H11.out HKW.out (by omega) (by omega) HQ11.out HNQ.out (lookF (fileB d 0)).1 A0 n0 c0 D0 m0 e0 ((fileB d 0).length : Nat) (E (fileB d 0) : Nat) (by omega) (by omega))
        unfold keptV at HM
        have HKM := Lib.hid (Ok.mend HKW.out 0 (E (fileB d 0) : Nat) ((fileB d 0).length : Nat))
        by_cases hm : (mendR d1 0 (E (fileB d 0) : Nat) ((fileB d 0).length : Nat)).2 = 0
        · have hm' := hm
          rw [hm] at HM
          have HEN : Hid ((openR d s).e = 0 ∧ (openR d s).d = (mendR d1 0 (E (fileB d 0) : Nat) ((fileB d 0).length : Nat)).1 ∧ (openR d s).v = ⟨0, (lookF (fileB d 0)).1, (lookF (fileB d 0)).2.1, (lookF (fileB d 0)).2.2⟩) := Lib.hid (by rw [HOPN.out, HOLD2.out]; exact ⟨hm', rfl, rfl⟩)
          have HPK := Lib.hid hpk
          clear hm hm' HOLD2 HOLD HOPN HOP hpk
          generalize (mendR d1 0 (E (fileB d 0) : Nat) ((fileB d 0).length : Nat)).1 = d2 at HM HKM HEN
          go_wp2_with fail
          refine HM.out.mono ?_
          rintro e w12 ⟨rfl, cs12, h12, s12⟩
          have hkeep : ∀ i : Nat, w.heap.size ≤ i → i < w9.heap.size → w12.heap[i]? = w11.heap[i]? := fun i h1 h2 => s12.keep.2 i (HFT11.out i h1 h2) (by omega)
          have HQ12 := Lib.hid (HQ11.out.block (hkeep qb hqw (by omega)))
          have hk12 := (hkeep (qb + 1) (by omega) (by omega)).trans HK11.out
          have hnq : ¬ Ft p cs12 qb := fun h => by
            rcases s12.foot qb h with h | h
            · exact HNQ.out h
            · omega
          have S12 := Lib.hid (S11.out.trans s12)
          have H12 := Lib.hid h12
          have HG12 := Lib.hid (HG11.out.kp ⟨s12.keep.1, fun i hi hl => s12.keep.2 i (HFT11.out i (by omega) (by omega)) hl⟩)
          have HFT12 : Hid (∀ i : Nat, w.heap.size ≤ i → i < w9.heap.size → ¬ Ft p cs12 i) := Lib.hid fun i h1 h2 h => by
            rcases s12.foot i h with h | h
            · exact HFT11.out i h1 h2 h
            · omega
          have HNQ := Lib.hid hnq
          have HK12 := Lib.hid hk12
          have hs12 := s12.keep.1
          clear h12 s12 hkeep hk12 hnq k0 k1 k2 k3 k4 q0 q5 v1
          obtain ⟨⟨k0, k1, k2, k3, k4⟩, _⟩ := box_cells HK12.out
          obtain ⟨_, _, v2, v3, _⟩ := HQ12.out.cells
          have fr2 := HQ12.out.free 2
          have fr3 := HQ12.out.free 3
          go_upto_region 29 with fail
          go_cut [] from 110 to 120 (fun wx => wx = ((w12.setCell ⟨qb, 2, none⟩ (.int .i64 (lookF (fileB d 0)).1)).setCell ⟨qb, 3, none⟩ (.int .i64 (m0 : Nat))).drew)
          case first =>
            go_region
            all_goals go_wp2_with fail
            all_goals go_meet
            all_goals (case rel => rfl)
          case rest =>
            have hblk : ∀ i : Nat, i ≠ qb → wc.heap[i]? = w12.heap[i]? := fun i hi => by
              rw [hcut]
              show ((w12.setCell ⟨qb, 2, none⟩ (.int .i64 (lookF (fileB d 0)).1)).setCell ⟨qb, 3, none⟩ (.int .i64 (m0 : Nat))).heap[i]? = _
              rw [Below.heap_setCell _ _ _ _ hi, Below.heap_setCell _ _ _ _ hi]
            have hbel : Below w.heap.size w12 wc := by
              rw [hcut]
              exact ((((Below.refl w.heap.size w12).setCell (p := ⟨qb, 2, none⟩) hqw _).setCell (p := ⟨qb, 3, none⟩) hqw _)).drew
            have hq13 : VB wc qb p 0 (lookF (fileB d 0)).1 (m0 : Nat) 0 := ⟨by
              rw [hcut]
              exact box_put (box_put HQ12.out.box 2 (.int .i64 (lookF (fileB d 0)).1)) 3 (.int .i64 (m0 : Nat))⟩
            clear hcut
            have HA13 : Hid (DAt wc base p cs12 d2) := Lib.hid (H12.out.blocks fun g hg => hblk g (fun e => HNQ.out (e ▸ hg)))
            have hsz12 := hbel.size
            have HS13 : Hid (DStep w base p cs wc cs12) := Lib.hid ⟨⟨Nat.le_trans S12.out.keep.1 hsz12, fun i hi hlt => (hblk i (by omega)).trans (S12.out.keep.2 i hi hlt)⟩, S12.out.foot, S12.out.bel.trans (hbel.mono H.out.base_le)⟩
            have HG13 := Lib.hid (HG12.out.kp (w1 := wc) ⟨hsz12, fun i hi _ => hblk i (by omega)⟩)
            have hk13 := (hblk (qb + 1) (by omega)).trans HK12.out
            have HQ13 := Lib.hid hq13
            clear hblk hbel hq13 k0 k1 k2 k3 k4 v2 v3 fr2 fr3
            obtain ⟨⟨_, k1, k2, _, _⟩, _⟩ := box_cells hk13
            clear hk13
            go_wp2_with fail
            go_quiet (fail)
            go_wp2
            obtain ⟨he, hd, hv⟩ := HEN.out
            have hD := pw_below_drewN (Below.refl wc.heap.size wc) nq
            have hml : (lookF (fileB d 0)).2.2.length = m0 := by rw [← HG13.out.each.len]; exact OwV.len HG13.out.rows
            refine bodyPost_ret (results_tmp4 rfl _ _ _) rfl ?_
            refine .inr ⟨he, qb, A0, n0, c0, D0, m0, e0, cells0, cs12, rfl, ?_, HS13.out.trans (DStep.below hD (Nat.le_trans H.out.base_le HS13.out.keep.1)), ?_, ⟨hqw, HNQ.out⟩, ?_⟩
            · rw [hd]; exact HA13.out.below hD
            · rw [hv]
              show VB _ qb p (((0 : Nat)) : Int) (lookF (fileB d 0)).1 (((lookF (fileB d 0)).2.2.length : Nat) : Int) 0
              rw [hml]
              exact HQ13.out.below hD
            · rw [hv]
              exact ⟨((HG13.out.kp (w1 := wc.drewN nq) ⟨hD.size, fun i _ hl => hD.block i hl⟩).less (by omega)).mono fun j hj => ⟨by omega, HFT12.out j (by omega) (by omega), by omega⟩, fun h => absurd (by rw [HPK.out] at h; exact h) hgn⟩
        · have hm1 : ((mendR d1 0 (E (fileB d 0) : Nat) ((fileB d 0).length : Nat)).2 == 0) = false := beq_eq_false_iff_ne.2 hm
          have hm2 : ((mendR d1 0 (E (fileB d 0) : Nat) ((fileB d 0).length : Nat)).2 != 0) = true := by simp [hm]
          have HEN : Hid ((openR d s).e = (mendR d1 0 (E (fileB d 0) : Nat) ((fileB d 0).length : Nat)).2 ∧ (openR d s).d = (mendR d1 0 (E (fileB d 0) : Nat) ((fileB d 0).length : Nat)).1 ∧ (openR d s).e ≠ 0) := Lib.hid (by rw [HOPN.out, HOLD2.out]; exact ⟨rfl, rfl, hm⟩)
          clear hm HOLD2 HOLD HOPN HOP hpk
          generalize mendR d1 0 (E (fileB d 0) : Nat) ((fileB d 0).length : Nat) = r2 at HM HKM HEN hm1 hm2
          go_wp2_with fail
          refine HM.out.mono ?_
          rintro e w12 hret
          have HRt := Lib.hid (RetD.from S11.out hret)
          obtain ⟨rfl, _⟩ := hret
          go_wp2
          refine bodyPost_ret (results_tmp4 rfl _ _ _) rfl ?_
          obtain ⟨he, hd, hv⟩ := HEN.out
          refine .inl ⟨hv, by rw [he]; rfl, ?_⟩
          rw [hd]
          exact HRt.out.2
      · have hw1 : ((wipeR d 1 ((fileB d 1).length : Nat)).2 == 0) = false := beq_eq_false_iff_ne.2 hw
        have hw2 : ((wipeR d 1 ((fileB d 1).length : Nat)).2 != 0) = true := by simp [hw]
        have HEN : Hid ((openR d s).e = (wipeR d 1 ((fileB d 1).length : Nat)).2 ∧ (openR d s).d = (wipeR d 1 ((fileB d 1).length : Nat)).1 ∧ (openR d s).e ≠ 0) := Lib.hid (by
          have h := HOPN.out.trans (HOLD.out.trans (if_pos hw))
          rw [h]
          exact ⟨rfl, rfl, hw⟩)
        clear hw HOLD HOPN HOP hpk
        generalize wipeR d 1 ((fileB d 1).length : Nat) = r2 at HW HKW HEN hw1 hw2
        go_wp2_with fail
        refine HW.out.mono ?_
        rintro e w11 hret
        have HRt := Lib.hid (RetD.from S10.out hret)
        obtain ⟨rfl, _⟩ := hret
        go_wp2
        refine bodyPost_ret (results_tmp4 rfl _ _ _) rfl ?_
        obtain ⟨he, hd, hv⟩ := HEN.out
        refine .inl ⟨hv, by rw [he]; rfl, ?_⟩
        rw [hd]
        exact HRt.out.2
end Go.Proofs.YtfinaikgikifcaaDoor.vaulto
/- What the vault's Append computes. -/
namespace Go.Proofs.YtfinaikgikifcaaDoor.vaulta
open Go.RowKit Go.Shelf Go.Proofs.YtfinaikgikifcaaDoorW.PrintWords Go.Proofs.YtfinaikgikifcaaDoor.base Go.Proofs.YtfinaikgikifcaaDoor.mem Go.Proofs.YtfinaikgikifcaaDoor.keep Go.Proofs.YtfinaikgikifcaaDoor.crcp Go.Proofs.YtfinaikgikifcaaDoor.crcw Go.Proofs.YtfinaikgikifcaaDoor.samew Go.Proofs.YtfinaikgikifcaaDoor.framep Go.Proofs.YtfinaikgikifcaaDoor.framew Go.Proofs.YtfinaikgikifcaaDoor.frameit Go.Proofs.YtfinaikgikifcaaDoor.framem Go.Proofs.YtfinaikgikifcaaDoor.framel Go.Proofs.YtfinaikgikifcaaDoor.diskp Go.Proofs.YtfinaikgikifcaaDoor.diskr Go.Proofs.YtfinaikgikifcaaDoor.diskw Go.Proofs.YtfinaikgikifcaaDoor.vaultp Go.Proofs.YtfinaikgikifcaaDoor.vaultw

/-- behind a step that stores into the vault's box -/
structure VStep (w : World) (base p : Nat) (cs : Nat → Sl) (q : Nat) (w' : World) (cs' : Nat → Sl) : Prop where
  keep : Kp (fun i => ¬ Ft p cs i ∧ i ≠ q) w w'
  foot : ∀ i, Ft p cs' i → Ft p cs i ∨ w.heap.size ≤ i
  bel : Below base w w'
/-- numbers of a vault: file, generation, count, the error -/
structure Vn where
  f : Int
  g : Int
  n : Int
  s : Int
/-- what a vault's call does: the disk, the vault, the answer -/
def vappR (d : D) (v : Vn) (ys : List Int) : D × Vn × Int :=
  if 1048576 < ys.length then (d, v, 3)
  else if v.s ≠ 0 then (d, v, v.s)
  else if (beginR d v.f (fenc ys)).2 ≠ 0 then ((beginR d v.f (fenc ys)).1, ⟨v.f, v.g, v.n, (beginR d v.f (fenc ys)).2⟩, (beginR d v.f (fenc ys)).2)
  else ((beginR d v.f (fenc ys)).1, ⟨v.f, v.g, v.n + 1, v.s⟩, 0)
/-- the vault and its disk behind a call -/
def VPost (w : World) (base p : Nat) (cs : Nat → Sl) (q : Nat) (d' : D) (v' : Vn) (w' : World) : Prop := ∃ cs', DAt w' base p cs' d' ∧ VStep w base p cs q w' cs' ∧ VB w' q p v'.f v'.g v'.n v'.s ∧ ¬ Ft p cs' q
def RetV (w : World) (base p : Nat) (cs : Nat → Sl) (q : Nat) (r : D × Vn × Int) (e : Ending) (w' : World) : Prop := e = .returned (.int .i64 r.2.2) ∧ VPost w base p cs q r.1 r.2.1 w'
section
variable {w w1 w2 : World} {base p q : Nat} {cs cs1 : Nat → Sl} {d : D} {v : Vn}
theorem VStep.of (h : DStep w base p cs w1 cs1) : VStep w base p cs q w1 cs1 := ⟨h.keep.mono fun _ _ h => h.1, h.foot, h.bel⟩
/-- a store into the vault's box behind steps of the disk -/
theorem VStep.set (h : DStep w base p cs w1 cs1) (hq : base ≤ q) (i : Nat) (x : Value) : VStep w base p cs q (w1.setCell ⟨q, i, none⟩ x) cs1 :=
  ⟨(h.keep.mono (Q := fun j => ¬ Ft p cs j ∧ j ≠ q) fun _ _ h => h.1).set (fun h => h.2 rfl) i x, h.foot, h.bel.setCell (p := ⟨q, i, none⟩) hq x⟩
theorem VStep.then (h : VStep w base p cs q w1 cs1) {cs2 : Nat → Sl} (k : DStep w1 base p cs1 w2 cs2) : VStep w base p cs q w2 cs2 :=
  ⟨⟨Nat.le_trans h.keep.1 k.keep.1, fun i hi hlt => (k.keep.2 i (fun hf => by
    rcases h.foot i hf with h1 | h1
    · exact hi.1 h1
    · omega) (Nat.lt_of_lt_of_le hlt h.keep.1)).trans (h.keep.2 i hi hlt)⟩, fun i hi => by
    rcases k.foot i hi with h1 | h1
    · exact h.foot i h1
    · exact .inr (Nat.le_trans h.keep.1 h1), h.bel.trans k.bel⟩
theorem VStep.put (h : VStep w base p cs q w1 cs1) (hq : base ≤ q) (i : Nat) (x : Value) : VStep w base p cs q (w1.setCell ⟨q, i, none⟩ x) cs1 :=
  ⟨h.keep.set (fun h => h.2 rfl) i x, h.foot, h.bel.setCell (p := ⟨q, i, none⟩) hq x⟩
theorem VStep.drew (h : VStep w base p cs q w1 cs1) : VStep w base p cs q w1.drew cs1 := ⟨⟨h.keep.1, h.keep.2⟩, h.foot, h.bel.drew⟩
theorem VStep.trans (h : VStep w base p cs q w1 cs1) {cs2 : Nat → Sl} (k : VStep w1 base p cs1 q w2 cs2) : VStep w base p cs q w2 cs2 :=
  ⟨⟨Nat.le_trans h.keep.1 k.keep.1, fun i hi hlt => (k.keep.2 i ⟨fun hf => by
    rcases h.foot i hf with h1 | h1
    · exact hi.1 h1
    · omega, hi.2⟩ (Nat.lt_of_lt_of_le hlt h.keep.1)).trans (h.keep.2 i hi hlt)⟩, fun i hi => by
    rcases k.foot i hi with h1 | h1
    · exact h.foot i h1
    · exact .inr (Nat.le_trans h.keep.1 h1), h.bel.trans k.bel⟩
theorem VB.put {f g n s : Int} (h : VB w q p f g n s) (i : Nat) (x : Value) : (w.setCell ⟨q, i, none⟩ x).heap[q]? = some (.cells (#[.pointer (some ⟨p, 0, none⟩), .int .i64 f, .int .i64 g, .int .i64 n, .int .i64 s].setIfInBounds i x) 71 (0, 0)) := by
  obtain ⟨hlt, hk⟩ := Array.getElem?_eq_some_iff.1 h.box
  show (w.heap.modify q _)[q]? = _
  rw [Array.getElem?_eq_getElem (by rw [Array.size_modify]; exact hlt), Array.getElem_modify_self, hk]
  rfl
theorem DAt.vset (h : DAt w base p cs d) (hq : ¬ Ft p cs q) (i : Nat) (x : Value) : DAt (w.setCell ⟨q, i, none⟩ x) base p cs d :=
  h.blocks fun g hg => Below.heap_setCell _ _ _ _ (fun e => hq (by have e : g = q := e; rw [← e]; exact hg))
end
theorem encode_ok (A : Option Addr) (n c : Nat) (xs : List Int) (w : World) (hr : RdB w A n xs) (hc : n ≤ c) (hn : n ≤ 1048576) (ht : Table w) :
    Calls Tryd.prog 37 #[.slice A n c] w (RetR w (fenc xs) 0) := by
  have := encode_any A n c xs w hr hc ht
  rw [decide_eq_true hn] at this
  exact this
theorem encode_long (A : Option Addr) (n c : Nat) (xs : List Int) (w : World) (hr : RdB w A n xs) (hc : n ≤ c) (hn : ¬ n ≤ 1048576) (ht : Table w) :
    Calls Tryd.prog 37 #[.slice A n c] w (RetR w [] 3) := by
  have := encode_any A n c xs w hr hc ht
  rw [decide_eq_false hn] at this
  exact this
set_option maxHeartbeats 1000000 in
set_option maxRecDepth 100000 in
theorem append_any {w : World} {base p q : Nat} {cs : Nat → Sl} {d : D} {v : Vn} {S N : Nat} (h : DAt w base p cs d) (hk : Ok d S N) (hv : VB w q p v.f v.g v.n v.s) (hq : base ≤ q) (hnq : ¬ Ft p cs q) (hn0 : 0 ≤ v.n ∧ v.n ≤ 4611686018427387904) (A : Option Addr) (n c : Nat) (ys : List Int) (hr : RdB w A n ys) (hc : n ≤ c) (hS : S + 1048584 ≤ 70368744177664) (hN : N + 2 ≤ 4611686018427387904) (ht : Table w) :
    Calls Tryd.prog 18 #[.pointer (some ⟨q, 0, none⟩), .slice A n c] w (RetV w base p cs q (vappR d v ys)) := by
  have hl := hr.len
  have HEO := Lib.hid (fun hn => encode_ok A n c ys w hr hc hn ht)
  have HEL := Lib.hid (fun hn => encode_long A n c ys w hr hc hn ht)
  have H := Lib.hid h
  have HK := Lib.hid hk
  have HV := Lib.hid hv
  have HNQ := Lib.hid hnq
  have hbs := h.base_le
  have hql := hv.lt
  clear h hk hv hr ht hnq
  by_cases hlong : n ≤ 1048576
  · have HE := Lib.hid (HEO.out hlong)
    have HA : Hid (vappR d v ys = if v.s ≠ 0 then (d, v, v.s) else if (beginR d v.f (fenc ys)).2 ≠ 0 then ((beginR d v.f (fenc ys)).1, ⟨v.f, v.g, v.n, (beginR d v.f (fenc ys)).2⟩, (beginR d v.f (fenc ys)).2) else ((beginR d v.f (fenc ys)).1, ⟨v.f, v.g, v.n + 1, v.s⟩, 0)) := Lib.hid (if_neg (by omega))
    have HFL := Lib.hid (fenc_len ys)
    clear HEO HEL
    go_enter Tryd.func18, Tryd.ntmps18
    go_wp2_with fail
    refine HE.out.mono ?_
    rintro e w2 ⟨A2, n2, c2, rfl, ho, hb⟩
    have B2 := Lib.hid hb
    have HO2 := Lib.hid ho
    have hl2 := ho.len
    rw [HFL.out] at hl2
    have hs2 := hb.size
    have H2 := Lib.hid (H.out.below hb)
    have HV2 := Lib.hid (HV.out.below hb)
    have S2 := Lib.hid (DStep.below (p := p) (cs := cs) hb hbs)
    clear ho hb
    obtain ⟨e0, e1, e2, e3, e4⟩ := HV2.out.cells
    by_cases hsk : v.s = 0
    · have HA := Lib.hid (HA.out.trans (if_neg (fun h => h hsk)))
      have HSK := Lib.hid hsk
      rw [hsk] at e4
      clear hsk e2 e3
      go_wp2_with fail
      go_still_tail 9, (by kernel_rfl)
      have H3 := Lib.hid H2.out.drewd
      have S3 := Lib.hid S2.out.drewd
      have HV3 := Lib.hid (HV2.out.below (Below.refl _ w2).drew)
      have HO3 := Lib.hid (HO2.out.below (Below.refl _ w2).drew)
      change wpList _ _ _ _ _ w2.drew
      generalize w2.drew = w3 at H3 S3 HV3 HO3 ⊢
      clear e0 e1 e4
      have HB := Lib.hid (begin_any H3.out HK.out v.f A2 n2 c2 (fenc ys) HO3.out.rd (by omega) hN)
      by_cases hb0 : (beginR d v.f (fenc ys)).2 = 0
      · have HA := Lib.hid (HA.out.trans (if_neg (fun h => h hb0)))
        rw [hb0] at HB
        generalize (beginR d v.f (fenc ys)).1 = d1 at HB HA
        clear hb0
        go_wp2_with fail
        refine HB.out.mono ?_
        rintro e w4 ⟨rfl, cs4, h4, s4⟩
        have S4 := Lib.hid (S3.out.trans s4)
        have H4 := Lib.hid h4
        have HV4 := Lib.hid (HV3.out.kept s4.keep HNQ.out)
        have HNQ4 : Hid (¬ Ft p cs4 q) := Lib.hid fun h => by
          rcases S4.out.foot q h with h | h
          · exact HNQ.out h
          · omega
        clear h4 s4
        obtain ⟨_, _, _, e3, _⟩ := HV4.out.cells
        have f3 := HV4.out.free 3
        go_wp2
        go_ret
        rw [HA.out]
        exact ⟨rfl, cs4, DAt.vset H4.out HNQ4.out 3 _, VStep.set S4.out hq 3 _, ⟨by have := VB.put HV4.out 3 (.int .i64 (v.n + 1)); exact this⟩, HNQ4.out⟩
      · have HA := Lib.hid (HA.out.trans (if_pos hb0))
        have hb1 : ((beginR d v.f (fenc ys)).2 == 0) = false := beq_eq_false_iff_ne.2 hb0
        have hb2 : ((beginR d v.f (fenc ys)).2 != 0) = true := by simp [hb0]
        clear hb0
        generalize beginR d v.f (fenc ys) = r at HB HA hb1 hb2
        go_wp2_with fail
        refine HB.out.mono ?_
        rintro e w4 ⟨rfl, cs4, h4, s4⟩
        have S4 := Lib.hid (S3.out.trans s4)
        have H4 := Lib.hid h4
        have HV4 := Lib.hid (HV3.out.kept s4.keep HNQ.out)
        have HNQ4 : Hid (¬ Ft p cs4 q) := Lib.hid fun h => by
          rcases S4.out.foot q h with h | h
          · exact HNQ.out h
          · omega
        clear h4 s4
        have HI := Lib.hid (ill_any HV4.out r.2)
        go_wp2_with fail
        refine HI.out.mono ?_
        rintro e w5 ⟨rfl, rfl⟩
        go_wp2
        go_ret
        rw [HA.out]
        exact ⟨rfl, cs4, DAt.vset H4.out HNQ4.out 4 _, VStep.set S4.out hq 4 _, ⟨VB.put HV4.out 4 (.int .i64 r.2)⟩, HNQ4.out⟩
    · have HA := Lib.hid (HA.out.trans (if_pos hsk))
      have hb1 : (v.s == 0) = false := beq_eq_false_iff_ne.2 hsk
      have hb2 : (v.s != 0) = true := by simp [hsk]
      clear hsk e2 e3
      go_wp2
      go_ret
      rw [HA.out]
      exact ⟨rfl, cs, H2.out, VStep.of S2.out, HV2.out, HNQ.out⟩
  · have HE := Lib.hid (HEL.out hlong)
    have HA : Hid (vappR d v ys = (d, v, 3)) := Lib.hid (if_pos (by omega))
    clear HEO HEL
    go_enter Tryd.func18, Tryd.ntmps18
    go_wp2_with fail
    refine HE.out.mono ?_
    rintro e w2 ⟨A2, n2, c2, rfl, ho, hb⟩
    have H2 := Lib.hid (H.out.below hb)
    have HV2 := Lib.hid (HV.out.below hb)
    have S2 := Lib.hid (DStep.below (p := p) (cs := cs) hb hbs)
    clear ho hb
    go_wp2
    go_ret
    rw [HA.out]
    exact ⟨rfl, cs, H2.out, VStep.of S2.out, HV2.out, HNQ.out⟩
end Go.Proofs.YtfinaikgikifcaaDoor.vaulta
