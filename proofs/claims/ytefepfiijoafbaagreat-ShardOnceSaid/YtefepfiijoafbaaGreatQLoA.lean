/- lives: the worked example, whole. ShardOrder: the two states side by side. -/
import Derived.Test.YtefepfiijoafbaaGreatQLv3
namespace Go.Proofs.YtefepfiijoafbaaGreat
open Go.RowKit Go.Shelf Go.Maps
attribute [local go_sem] Oper.semAt_some
attribute [local irreducible] wpQuiet
set_option linter.unusedVariables false
set_option linter.unusedSimpArgs false

theorem live_out {w W : World} {R : Nat → Prop} {p N k : Nat} {s : SS} (h : Live w W R p s N) (hk : W.heap.size ≤ k) : ¬ R k := fun hr => by
  have := (h.2.2.1 k hr).2; omega
set_option maxRecDepth 100000 in
set_option maxHeartbeats 4000000 in
theorem lsLives_any (w : World) : Calls Tryz.prog 10 #[] w fun e w' => e = .returned (.bool true) ∧ Fr N0 w w' := by
  have HN := Lib.hid (live_new w)
  go_enter Tryz.func10, Tryz.ntmps10
  go_wp2_with (go_at_call 12; go_loud (refine HN.out.mono ?_); rintro e w1 ⟨p, R, rfl, hL1⟩; have HL1 := Lib.hid hL1; clear hL1)
  have hA : (w1.alloc (.cells SchN 32)).heap[w1.heap.size]? = some (.cells SchN 32 (0, 0)) := World.alloc_heap_new _ _
  have hL2 := HL1.out.fr (((Fr.refl N0 w1).alloc (.cells SchN 32)).alloc (.cells SchO 32))
  have hAb : BoxB w1.heap.size SchN ((w1.alloc (.cells SchN 32)).alloc (.cells SchO 32)) := ⟨(box_cells ((Below.heap_alloc _ _ _ (by simp)).trans hA)).1, by simp; omega⟩
  have hBb : BoxB (w1.heap.size + 1) SchO ((w1.alloc (.cells SchN 32)).alloc (.cells SchO 32)) := ⟨(box_cells (heap_alloc2_new _ _ _)).1, by simp⟩
  have hAR : ¬ R w1.heap.size := live_out HL1.out (Nat.le_refl _)
  have hBR : ¬ R (w1.heap.size + 1) := live_out HL1.out (by omega)
  generalize ((w1.alloc (.cells SchN 32)).alloc (.cells SchO 32)) = W1 at hL2 hAb hBb ⊢
  clear hA HN HL1
  generalize w1.heap.size + 1 = B at hBb hBR ⊢
  generalize w1.heap.size = A at hAb hAR ⊢
  rename_i Kx hKx
  refine wp_frA _ rfl ?_
  refine ll5 w W1 R p A B _ hL2 hAb hBb hAR hBR (by rfl) (by rfl) (by rfl) fun f1 W2 R1 a1 a4 a5 hL3 => ?_
  refine hKx _ _ ?_
  refine wp_seq (ll6 W2 f1 fun f2 W3 S C b1 b4 b5 b6 hSz hCz hS hC hf3 => ?_)
  have hSR := live_out hL3 hSz; have hCR := live_out hL3 hCz
  have hL4 := hL3.fr hf3
  refine wp_seq (ll7 w W3 R1 p f2 hL4 C S hS hC b6 (b1.trans a1) fun f3 W4 R2 c1 c4 c5 c6 c7 hL5 hR2 hf4 => ?_)
  have hS4 := (hf4.at hSR (lt_of_block hS)).trans hS; have hC4 := (hf4.at hCR (lt_of_block hC)).trans hC
  have hSR2 : ¬ R2 S := fun h => (hR2 S h).elim hSR fun h => by have := lt_of_block hS; omega
  have hCR2 : ¬ R2 C := fun h => (hR2 C h).elim hCR fun h => by have := lt_of_block hC; omega
  have e1 := c1.trans (b1.trans a1); have e6 := c6.trans b6
  refine wp_seq (ll8 w W4 R2 p f3 hL5 e1 fun f4 W5 d1 d4 d5 d6 d7 d8 hf5 => ?_)
  have hS5 := (hf5.at id (lt_of_block hS4)).trans hS4; have hC5 := (hf5.at id (lt_of_block hC4)).trans hC4
  refine wp_seq (ll9 w W5 R2 p f4 (hL5.fr hf5) (d1.trans e1) fun f5 W6 R3 g1 g4 g5 g6 g7 g8 g9 hL6 hR3 hf6 => ?_)
  have hS6 := (hf6.at hSR2 (lt_of_block hS5)).trans hS5; have hC6 := (hf6.at hCR2 (lt_of_block hC5)).trans hC5
  have hSR3 : ¬ R3 S := fun h => (hR3 S h).elim hSR2 fun h => by have := lt_of_block hS5; omega
  have hCR3 : ¬ R3 C := fun h => (hR3 C h).elim hCR2 fun h => by have := lt_of_block hC5; omega
  replace e1 := g1.trans (d1.trans e1); replace e6 := g6.trans (d6.trans e6)
  refine wp_seq (ll10 w W6 R3 p f5 hL6 e1 fun f6 W7 i1 i4 i5 i6 i7 i8 i9 i10 hf7 => ?_)
  refine wp_seq (ll11 w W7 R3 p f6 (hL6.fr hf7) (i1.trans e1) fun f7 W8 g o c j1 j4 j5 j6 j7 j8 j9 j10 j11 j12 hv hc hg hf8 => ?_)
  have hgR := live_out (hL6.fr hf7) hg
  have hL8 := (hL6.fr hf7).fr hf8
  refine wp_seq (ll12 w W8 R3 p f7 hL8 (j1.trans (i1.trans e1)) fun f8 W9 k1 k4 k5 k6 k7 k8 k9 k10 k11 k12 k13 k14 hf9 => ?_)
  have hf79 := hf7.then0 (hf8.then0 hf9)
  have hS9 := (hf79.at id (lt_of_block hS6)).trans hS6; have hC9 := (hf79.at id (lt_of_block hC6)).trans hC6
  replace e1 := k1.trans (j1.trans (i1.trans e1)); replace e6 := k6.trans (j6.trans (i6.trans e6))
  refine wp_seq (ll13 w W9 R3 p f8 (hL8.fr hf9) C S hS9 hC9 e6 e1 fun f9 W10 R4 l1 l4 l5 l6 l7 l8 l9 l10 l11 l12 l13 l14 l15 hL10 hR4 hf10 => ?_)
  have hgl : g < W8.heap.size := lt_of_cell (hv 0 (by decide))
  have hgR4 : ¬ R4 g := fun h => (hR4 g h).elim hgR fun h => by have := hf9.size; omega
  refine wp_seq (ll14 w W10 R4 p f9 hL10 (l1.trans e1) fun f10 W11 R5 m1 m4 m5 m6 m7 m8 m9 m10 m11 m12 m13 m14 m15 m16 hL11 hR5 hf11 => ?_)
  have hv' : ∀ i, i < 5 → W11.cell? ⟨g, o + i, none⟩ = (Val.enc ⟨3, false, 0, bA, 0⟩)[i]? := fun i hi =>
    (cell_same (p := ⟨g, o + i, none⟩) ((hf11.at hgR4 (by have := hf9.size; have := hf10.size; omega)).trans ((hf10.at hgR (by have := hf9.size; omega)).trans (hf9.at id hgl)))).trans (hv i hi)
  refine wp_seq (ll15 W11 f10 g o c hc ?_ ?_ ?_ ?_ ?_ ?_ ?_ ?_ ?_ ?_ ?_ m16 hv' fun f11 W12 z0 hf12 => ?_)
  · rw [m4, l4, k4, j4, i4, g4, d4, c4, b4, a4]
  · rw [m5, l5, k5, j5, i5, g5, d5, c5, b5, a5]
  · rw [m7, l7, k7, j7, i7, g7, d7, c7]
  · rw [m8, l8, k8, j8, i8, g8, d8]
  · rw [m9, l9, k9, j9, i9, g9]
  · rw [m10, l10, k10, j10, i10]
  · rw [m11, l11, k11, j11]
  · rw [m12, l12, k12, j12]
  · rw [m13, l13, k13]
  · rw [m14, l14, k14]
  · rw [m15, l15]
  refine wp_ret ?_
  exact bodyPost_ret (v := .bool true) (by simp [results, frA, Tryz.results10, go_sem, z0]) rfl ⟨rfl, hL11.2.2.2.then0 hf12⟩
end Go.Proofs.YtefepfiijoafbaaGreat
namespace Go.Proofs.YtefepfiijoafbaaGreat
open Go.RowKit Go.Shelf Go.Maps
attribute [local go_sem] Oper.semAt_some
attribute [local irreducible] wpQuiet
set_option linter.unusedVariables false
set_option linter.unusedSimpArgs false

/-- Two states in new blocks, apart. -/
def Pair (w W : World) (Ra Rb : Nat → Prop) (pa pb : Nat) (sa sb : SS) (Na Nb : Nat) : Prop := Live w W Ra pa sa Na ∧ Live w W Rb pb sb Nb ∧ ∀ k, Ra k → ¬ Rb k
theorem Pair.swap {w W : World} {Ra Rb : Nat → Prop} {pa pb Na Nb : Nat} {sa sb : SS} (h : Pair w W Ra Rb pa pb sa sb Na Nb) : Pair w W Rb Ra pb pa sb sa Nb Na := ⟨h.2.1, h.1, fun k hb ha => h.2.2 k ha hb⟩
theorem Pair.fr {w W W' : World} {Ra Rb : Nat → Prop} {pa pb Na Nb : Nat} {sa sb : SS} (h : Pair w W Ra Rb pa pb sa sb Na Nb) (hf : Fr N0 W W') : Pair w W' Ra Rb pa pb sa sb Na Nb := ⟨h.1.fr hf, h.2.1.fr hf, h.2.2⟩
theorem Live.keep {w W W' : World} {R S : Nat → Prop} {p N : Nat} {s : SS} (h : Live w W R p s N) (hf : Fr S W W') (hS : ∀ k, R k → ¬ S k) (hS2 : ∀ k, S k → w.heap.size ≤ k) : Live w W' R p s N :=
  ⟨h.1.fr hf fun k hr hs => hS k hr hs, h.2.1, fun k hk => ⟨(h.2.2.1 k hk).1, Nat.lt_of_lt_of_le (h.2.2.1 k hk).2 hf.size⟩, h.2.2.2.trans hf fun k hk => .inr (hS2 k hk)⟩
/-- One command, applied to the first of the two. -/
def PairPost (w W : World) (Ra Rb : Nat → Prop) (pa pb : Nat) (r : SS × Int) (sb : SS) (Na Nb : Nat) (e : Ending) (w' : World) : Prop := e = .returned (.int .i64 r.2) ∧ (∃ Ra', Pair w w' Ra' Rb pa pb r.1 sb Na Nb ∧ ∀ k, Ra' k → Ra k ∨ W.heap.size ≤ k) ∧ Fr Ra W w'
theorem pair_apply {w W : World} {Ra Rb : Nat → Prop} {pa pb Na Nb : Nat} {sa sb : SS} (h : Pair w W Ra Rb pa pb sa sb Na Nb) (hN : Na ≤ 100000) (o : Op) (ho : o.wf) (V : OpS) (b : Nat) (hw : Wrs w b (.slice V.wa o.ws.length V.wc) o.ws) (hk : o.kind ≠ 4 ∧ o.kind ≠ 5 ∧ o.kind ≠ 6) :
    Calls Tryz.prog 13 #[.pointer (some ⟨pa, 0, none⟩), .agg (opEnc o V).toArray] W (PairPost w W Ra Rb pa pb (sApply sa o) sb (Na + 1) Nb) := by
  refine (live_apply h.1 hN o ho V b (hw.fr0 h.1.2.2.2) hk).mono fun e w' ⟨he, ⟨R', hL, hR⟩, hf⟩ => ⟨he, ⟨R', ⟨hL, h.2.1.keep hf (fun k hb ha => h.2.2 k ha hb) fun k hk => (h.1.2.2.1 k hk).1, fun k hk hb => ?_⟩, hR⟩, hf⟩
  rcases hR k hk with h1 | h1
  · exact h.2.2 k h1 hb
  · have := (h.2.1.2.2.1 k hb).2; omega
/-- .. and beside them blocks S of the caller's own. -/
structure Trio (w W : World) (Ra Rb S : Nat → Prop) (pa pb : Nat) (sa sb : SS) (Na Nb : Nat) : Prop where
  pair : Pair w W Ra Rb pa pb sa sb Na Nb
  apart : ∀ k, S k → ¬ Ra k ∧ ¬ Rb k
  new : ∀ k, S k → w.heap.size ≤ k ∧ k < W.heap.size
theorem Trio.swap {w W : World} {Ra Rb S : Nat → Prop} {pa pb Na Nb : Nat} {sa sb : SS} (h : Trio w W Ra Rb S pa pb sa sb Na Nb) : Trio w W Rb Ra S pb pa sb sa Nb Na := ⟨h.pair.swap, fun k hk => ⟨(h.apart k hk).2, (h.apart k hk).1⟩, h.new⟩
theorem Trio.own {w W W' : World} {Ra Rb S T S' : Nat → Prop} {pa pb Na Nb : Nat} {sa sb : SS} (h : Trio w W Ra Rb S pa pb sa sb Na Nb) (hf : Fr T W W') (hT : ∀ k, T k → S k ∨ W.heap.size ≤ k) (hS : ∀ k, S' k → (S k ∨ W.heap.size ≤ k) ∧ k < W'.heap.size) : Trio w W' Ra Rb S' pa pb sa sb Na Nb := by
  have ha : ∀ k, Ra k → ¬ T k := fun k hr ht => (hT k ht).elim (fun h' => (h.apart k h').1 hr) fun h' => by have := (h.pair.1.2.2.1 k hr).2; omega
  have hb : ∀ k, Rb k → ¬ T k := fun k hr ht => (hT k ht).elim (fun h' => (h.apart k h').2 hr) fun h' => by have := (h.pair.2.1.2.2.1 k hr).2; omega
  have hw := h.pair.1.2.2.2.size
  have hn : ∀ k, T k → w.heap.size ≤ k := fun k ht => (hT k ht).elim (fun h' => (h.new k h').1) fun h' => by omega
  refine ⟨⟨h.pair.1.keep hf ha hn, h.pair.2.1.keep hf hb hn, h.pair.2.2⟩, fun k hk => ⟨fun hr => ?_, fun hr => ?_⟩, fun k hk => ⟨?_, (hS k hk).2⟩⟩
  · exact (hS k hk).1.elim (fun h' => (h.apart k h').1 hr) fun h' => by have := (h.pair.1.2.2.1 k hr).2; omega
  · exact (hS k hk).1.elim (fun h' => (h.apart k h').2 hr) fun h' => by have := (h.pair.2.1.2.2.1 k hr).2; omega
  · exact (hS k hk).1.elim (fun h' => (h.new k h').1) fun h' => by omega
theorem Trio.fr {w W W' : World} {Ra Rb S : Nat → Prop} {pa pb Na Nb : Nat} {sa sb : SS} (h : Trio w W Ra Rb S pa pb sa sb Na Nb) (hf : Fr N0 W W') : Trio w W' Ra Rb S pa pb sa sb Na Nb :=
  h.own hf (fun _ h => h.elim) fun k hk => ⟨.inl hk, Nat.lt_of_lt_of_le (h.new k hk).2 hf.size⟩
/-- One command, applied to the first of the two; what is the caller's own lies as it lay. -/
def TrioPost (w W : World) (Ra Rb S : Nat → Prop) (pa pb : Nat) (r : SS × Int) (sb : SS) (Na Nb : Nat) (e : Ending) (w' : World) : Prop := e = .returned (.int .i64 r.2) ∧ (∃ Ra', Trio w w' Ra' Rb S pa pb r.1 sb Na Nb) ∧ Fr Ra W w'
theorem trio_apply {w W : World} {Ra Rb S : Nat → Prop} {pa pb Na Nb : Nat} {sa sb : SS} (h : Trio w W Ra Rb S pa pb sa sb Na Nb) (hN : Na ≤ 100000) (o : Op) (ho : o.wf) (V : OpS) (b : Nat) (hw : Wrs w b (.slice V.wa o.ws.length V.wc) o.ws) (hk : o.kind ≠ 4 ∧ o.kind ≠ 5 ∧ o.kind ≠ 6) :
    Calls Tryz.prog 13 #[.pointer (some ⟨pa, 0, none⟩), .agg (opEnc o V).toArray] W (TrioPost w W Ra Rb S pa pb (sApply sa o) sb (Na + 1) Nb) := by
  refine (pair_apply h.pair hN o ho V b hw hk).mono fun e w' ⟨he, ⟨R', hP, hR⟩, hf⟩ => ⟨he, ⟨R', hP, fun k hk => ⟨fun hr => ?_, (h.apart k hk).2⟩, fun k hk => ⟨(h.new k hk).1, Nat.lt_of_lt_of_le (h.new k hk).2 hf.size⟩⟩, hf⟩
  exact (hR k hr).elim (h.apart k hk).1 fun h' => by have := (h.new k hk).2; omega
end Go.Proofs.YtefepfiijoafbaaGreat
