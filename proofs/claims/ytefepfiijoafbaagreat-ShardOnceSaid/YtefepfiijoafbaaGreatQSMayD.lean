/- May, its switch: the first case. May, whole. -/
import Derived.Test.YtefepfiijoafbaaGreatQSMayC
import Derived.Test.YtefepfiijoafbaaGreatQSHoldN
namespace Go.Proofs.YtefepfiijoafbaaGreat
open Go.RowKit Go.Shelf
attribute [local go_sem] Oper.semAt_some
set_option linter.unusedVariables false
set_option linter.unusedSimpArgs false


theorem set16_4 (a0 a1 a2 a3 a4 a5 a6 a7 a8 a9 a10 a11 a12 a13 a14 a15 v : Value) : (#[a0, a1, a2, a3, a4, a5, a6, a7, a8, a9, a10, a11, a12, a13, a14, a15] : Array Value).setIfInBounds 4 v = #[a0, a1, a2, a3, v, a5, a6, a7, a8, a9, a10, a11, a12, a13, a14, a15] := rfl
theorem set16_5 (a0 a1 a2 a3 a4 a5 a6 a7 a8 a9 a10 a11 a12 a13 a14 a15 v : Value) : (#[a0, a1, a2, a3, a4, a5, a6, a7, a8, a9, a10, a11, a12, a13, a14, a15] : Array Value).setIfInBounds 5 v = #[a0, a1, a2, a3, a4, v, a6, a7, a8, a9, a10, a11, a12, a13, a14, a15] := rfl
theorem set16_6 (a0 a1 a2 a3 a4 a5 a6 a7 a8 a9 a10 a11 a12 a13 a14 a15 v : Value) : (#[a0, a1, a2, a3, a4, a5, a6, a7, a8, a9, a10, a11, a12, a13, a14, a15] : Array Value).setIfInBounds 6 v = #[a0, a1, a2, a3, a4, a5, v, a7, a8, a9, a10, a11, a12, a13, a14, a15] := rfl
theorem set16_7 (a0 a1 a2 a3 a4 a5 a6 a7 a8 a9 a10 a11 a12 a13 a14 a15 v : Value) : (#[a0, a1, a2, a3, a4, a5, a6, a7, a8, a9, a10, a11, a12, a13, a14, a15] : Array Value).setIfInBounds 7 v = #[a0, a1, a2, a3, a4, a5, a6, v, a8, a9, a10, a11, a12, a13, a14, a15] := rfl
theorem set16_8 (a0 a1 a2 a3 a4 a5 a6 a7 a8 a9 a10 a11 a12 a13 a14 a15 v : Value) : (#[a0, a1, a2, a3, a4, a5, a6, a7, a8, a9, a10, a11, a12, a13, a14, a15] : Array Value).setIfInBounds 8 v = #[a0, a1, a2, a3, a4, a5, a6, a7, v, a9, a10, a11, a12, a13, a14, a15] := rfl
theorem set16_9 (a0 a1 a2 a3 a4 a5 a6 a7 a8 a9 a10 a11 a12 a13 a14 a15 v : Value) : (#[a0, a1, a2, a3, a4, a5, a6, a7, a8, a9, a10, a11, a12, a13, a14, a15] : Array Value).setIfInBounds 9 v = #[a0, a1, a2, a3, a4, a5, a6, a7, a8, v, a10, a11, a12, a13, a14, a15] := rfl
theorem set16_10 (a0 a1 a2 a3 a4 a5 a6 a7 a8 a9 a10 a11 a12 a13 a14 a15 v : Value) : (#[a0, a1, a2, a3, a4, a5, a6, a7, a8, a9, a10, a11, a12, a13, a14, a15] : Array Value).setIfInBounds 10 v = #[a0, a1, a2, a3, a4, a5, a6, a7, a8, a9, v, a11, a12, a13, a14, a15] := rfl
theorem set16_11 (a0 a1 a2 a3 a4 a5 a6 a7 a8 a9 a10 a11 a12 a13 a14 a15 v : Value) : (#[a0, a1, a2, a3, a4, a5, a6, a7, a8, a9, a10, a11, a12, a13, a14, a15] : Array Value).setIfInBounds 11 v = #[a0, a1, a2, a3, a4, a5, a6, a7, a8, a9, a10, v, a12, a13, a14, a15] := rfl

set_option maxRecDepth 100000 in
set_option maxHeartbeats 4000000 in
/-- case api.ShardHold -/
theorem may2a {K : Act → World → Prop} {Q : Exit → Act → World → Prop} (W : World) (f : Nat → Value) (A B : Nat) (hAB : A ≠ B) (st cm : Int) (wa : Option Addr) (nw wc : Nat) (c : Sch) (pr : ByteArray) (at_ : Int) (ta : Option Addr) (nt tc : Nat) (pa : Option Addr) (np pc : Nat)
    (h1 : f 1 = .pointer (some ⟨A, 0, none⟩)) (h3 : f 3 = .pointer (some ⟨B, 0, none⟩)) (h4 : f 4 = .bool false)
    (hA : W.heap[A]? = some (.cells (OpCells 1 st cm wa nw wc c.pred c.ty c.list c.exact_ c.term c.order c.rev c.count pr at_ ta nt tc pa np pc) 38 (0, 0)))
    (hB : W.heap[B]? = some (.cells (OpCells 1 st cm wa nw wc c.pred c.ty c.list c.exact_ c.term c.order c.rev c.count pr at_ ta nt tc pa np pc) 38 (0, 0)))
    (hK : ∀ f' W', f' 3 = f 3 → f' 4 = .bool (schMay c == 0) → CellsAt W' B (OpCells 1 st cm wa nw wc ⟨#[]⟩ 0 false false false false false false pr at_ ta nt tc pa np pc) → Fr (fun j => j = B) W W' → K (frA 149 f') W') :
    Code.wp Tryz.prog (lvFst (mayB 2)) (Exit.then K Q) (frA 149 f) W := by
  have hS := fun W => tSchema_any c W
  obtain ⟨sp, sy, sl, se, sm, so, sr, sc⟩ := c
  obtain ⟨M, hM⟩ : ∃ M, schMay ⟨sp, sy, sl, se, sm, so, sr, sc⟩ = M := ⟨_, rfl⟩
  simp only [hM, Sch.enc] at hS hK
  obtain ⟨ma, na, la⟩ := box_cells hA
  obtain ⟨mb, nb, lb⟩ := box_cells hB
  have HS := Lib.hid hS; have HK := Lib.hid hK; have HA := Lib.hid hA; have HB := Lib.hid hB
  have H3 := Lib.hid h3
  clear hS hK hA hB hM
  show Code.wp _ _ _ { tmps := #[f 0, f 1, f 2, f 3, f 4, f 5, f 6, f 7, f 8, f 9, f 10, f 11, f 12, f 13, f 14, f 15, f 16, f 17, f 18, f 19, f 20, f 21, f 22, f 23, f 24, f 25, f 26, f 27, f 28, f 29, f 30, f 31, f 32, f 33, f 34, f 35, f 36, f 37, f 38, f 39, f 40, f 41, f 42, f 43, f 44, f 45, f 46, f 47, f 48, f 49, f 50, f 51, f 52, f 53, f 54, f 55, f 56, f 57, f 58, f 59, f 60, f 61, f 62, f 63, f 64, f 65, f 66, f 67, f 68, f 69, f 70, f 71, f 72, f 73, f 74, f 75, f 76, f 77, f 78, f 79, f 80, f 81, f 82, f 83, f 84, f 85, f 86, f 87, f 88, f 89, f 90, f 91, f 92, f 93, f 94, f 95, f 96, f 97, f 98, f 99, f 100, f 101, f 102, f 103, f 104, f 105, f 106, f 107, f 108, f 109, f 110, f 111, f 112, f 113, f 114, f 115, f 116, f 117, f 118, f 119, f 120, f 121, f 122, f 123, f 124, f 125, f 126, f 127, f 128, f 129, f 130, f 131, f 132, f 133, f 134, f 135, f 136, f 137, f 138, f 139, f 140, f 141, f 142, f 143, f 144, f 145, f 146, f 147, f 148], defers := [] } _
  rw [h1, h3, h4]
  clear h1 h3 h4
  conv => arg 2; whnf
  simp only at ma mb
  go_wp2_with (go_at_call 91; refine (HS.out _).mono ?_; rintro e w1 ⟨rfl, hf1⟩; have hB1 := (hf1.at id lb).trans HB.out; obtain ⟨mb1, nb1, lb1⟩ := box_cells hB1)
  unfold OpCells at hB1
  have e1 := heap_setCell_same w1 B 4 _ _ (Value.string ⟨#[]⟩) hB1
  rw [set16_4] at e1
  have e2 := heap_setCell_same _ B 5 _ _ (Value.int .u8 0) e1
  rw [set16_5] at e2
  have e3 := heap_setCell_same _ B 6 _ _ (Value.bool false) e2
  rw [set16_6] at e3
  have e4 := heap_setCell_same _ B 7 _ _ (Value.bool false) e3
  rw [set16_7] at e4
  have e5 := heap_setCell_same _ B 8 _ _ (Value.bool false) e4
  rw [set16_8] at e5
  have e6 := heap_setCell_same _ B 9 _ _ (Value.bool false) e5
  rw [set16_9] at e6
  have e7 := heap_setCell_same _ B 10 _ _ (Value.bool false) e6
  rw [set16_10] at e7
  have e8 := heap_setCell_same _ B 11 _ _ (Value.bool false) e7
  rw [set16_11] at e8
  refine cut_use (n := 149) (K := K) _ rfl ?_
  exact HK.out _ _ H3.out.symm rfl (box_cells e8).1 (((((((((hf1.mono (T' := fun j => j = B) fun _ h => h.elim).setCell (p := ⟨B, 4, none⟩) (.inl rfl) _).setCell (p := ⟨B, 5, none⟩) (.inl rfl) _).setCell (p := ⟨B, 6, none⟩) (.inl rfl) _).setCell (p := ⟨B, 7, none⟩) (.inl rfl) _).setCell (p := ⟨B, 8, none⟩) (.inl rfl) _).setCell (p := ⟨B, 9, none⟩) (.inl rfl) _).setCell (p := ⟨B, 10, none⟩) (.inl rfl) _).setCell (p := ⟨B, 11, none⟩) (.inl rfl) _)
end Go.Proofs.YtefepfiijoafbaaGreat
namespace Go.Proofs.YtefepfiijoafbaaGreat
open Go.RowKit Go.Shelf
attribute [local go_sem] Oper.semAt_some
set_option linter.unusedVariables false
set_option linter.unusedSimpArgs false

set_option maxRecDepth 100000 in
set_option maxHeartbeats 1000000 in
theorem may0 {K : Act → World → Prop} {Q : Exit → Act → World → Prop} (W : World) (f : Nat → Value) (cs : Array Value) (h0 : f 0 = .agg cs) (hs : cs.size = 16) (h1 : ∀ v ∈ cs.toList, v.oneCell' = true) (hK : ∀ f', f' 1 = .pointer (some ⟨W.heap.size, 0, none⟩) → K (frA 149 f') (W.alloc (.cells cs 38))) :
    Code.wp Tryz.prog (lvFst (mayB 0)) (Exit.then K Q) (frA 149 f) W := by
  have HK := Lib.hid hK
  clear hK
  show Code.wp _ _ _ { tmps := #[f 0, f 1, f 2, f 3, f 4, f 5, f 6, f 7, f 8, f 9, f 10, f 11, f 12, f 13, f 14, f 15, f 16, f 17, f 18, f 19, f 20, f 21, f 22, f 23, f 24, f 25, f 26, f 27, f 28, f 29, f 30, f 31, f 32, f 33, f 34, f 35, f 36, f 37, f 38, f 39, f 40, f 41, f 42, f 43, f 44, f 45, f 46, f 47, f 48, f 49, f 50, f 51, f 52, f 53, f 54, f 55, f 56, f 57, f 58, f 59, f 60, f 61, f 62, f 63, f 64, f 65, f 66, f 67, f 68, f 69, f 70, f 71, f 72, f 73, f 74, f 75, f 76, f 77, f 78, f 79, f 80, f 81, f 82, f 83, f 84, f 85, f 86, f 87, f 88, f 89, f 90, f 91, f 92, f 93, f 94, f 95, f 96, f 97, f 98, f 99, f 100, f 101, f 102, f 103, f 104, f 105, f 106, f 107, f 108, f 109, f 110, f 111, f 112, f 113, f 114, f 115, f 116, f 117, f 118, f 119, f 120, f 121, f 122, f 123, f 124, f 125, f 126, f 127, f 128, f 129, f 130, f 131, f 132, f 133, f 134, f 135, f 136, f 137, f 138, f 139, f 140, f 141, f 142, f 143, f 144, f 145, f 146, f 147, f 148], defers := [] } _
  rw [h0]
  clear h0
  conv => arg 2; whnf
  go_wp2
  refine cut_use (n := 149) (K := K) _ rfl ?_
  exact HK.out _ rfl
theorem mayB_eq : mayB 0 = .seq (lvFst (mayB 0)) (.seq (lvFst (mayB 1)) (.seq (lvFst (mayB 2)) (mayB 3))) := by kernel_rfl

set_option maxRecDepth 100000 in
set_option maxHeartbeats 1000000 in
theorem sMay_any (W : World) (o : Op) (ho : o.wf) (V : OpS) (b : Nat) (hw : Wrs W b (.slice V.wa o.ws.length V.wc) o.ws) (hk : o.kind ≠ 4 ∧ o.kind ≠ 5 ∧ o.kind ≠ 6) (E : Int) (h1 : o.ok → E = 0) (h2 : ¬ o.ok → E = 200) :
    Calls Tryz.prog 53 #[.agg (opEnc o V).toArray] W fun e w' => e = .returned (.int .i64 E) ∧ Fr N0 W w' := by
  obtain ⟨h4, h5, h6⟩ := hk
  have hC : ∀ w', Fr N0 W w' → o.ws.length ≤ 256 → Calls Tryz.prog 113 #[.slice V.wa o.ws.length V.wc, .func (.func 114) #[] #[]] w' fun e w'' => e = .returned (.bool (o.ws.any fun x => trMay x != 0)) ∧ Fr N0 w' w'' := fun w' hf hl =>
    contFW_any w' b _ o.ws (hw.fr0 hf) (by omega) 114 #[] _ (fun x hx W' _ => sMay1_any x (ho.ws x hx) W') (fun args w => by kernel_rfl)
  have hA : (o.ws.any fun x => trMay x != 0) = false ↔ ∀ y ∈ o.ws, trMay y = 0 := by simp
  have hZ := sch_zero o.sch
  have hN := @ws_nil o.ws
  have hend : ∀ (K : Int) (ok : Bool) (B : Nat) (W' : World) (f : Nat → Value) (nw' : Nat) (st' cm' : Int) (c' : Sch) wa' wc', Fr N0 W W' → f 3 = .pointer (some ⟨B, 0, none⟩) → f 4 = .bool ok → CellsAt W' B (OpCells K st' cm' wa' nw' wc' c'.pred c'.ty c'.list c'.exact_ c'.term c'.order c'.rev c'.count o.pred o.at_ V.ta o.nt V.tc V.pa o.np V.pc) →
      ((ok = true ∧ st' = 0 ∧ cm' = 0 ∧ nw' = 0 ∧ c' = Sch.zero ∧ o.pred.size = 0 ∧ o.at_ = 0 ∧ o.nt = 0 ∧ o.np = 0) ↔ o.ok) → Code.wp Tryz.prog (mayB 3) (bodyPost Tryz.prog Tryz.f53 fun e w' => e = .returned (.int .i64 E) ∧ Fr N0 W w') (frA 149 f) W' := fun K ok B W' f nw' st' cm' c' wa' wc' hf f3 f4 hcells hiff => by
    refine may3 W' f B ok K st' cm' wa' nw' wc' c'.pred c'.ty c'.list c'.exact_ c'.term c'.order c'.rev c'.count o.pred o.at_ V.ta o.nt V.tc V.pa o.np V.pc f3 f4 hcells fun f' e e2 g1 g2 => ?_
    have : e = E := by
      rw [← sch_zero] at g1 g2
      by_cases hok : o.ok
      · rw [h1 hok]; exact g1 (hiff.2 hok)
      · rw [h2 hok]; exact g2 fun h => hok (hiff.1 h)
    exact bodyPost_ret (v := .int .i64 e) (by simp [results, frA, Tryz.results53, go_sem, e2]) rfl ⟨by rw [this], hf⟩
  go_enter Tryz.func53, Tryz.ntmps53
  refine wp_frA (n := 149) _ rfl ?_
  show Code.wp Tryz.prog (mayB 0) _ _ _
  rw [mayB_eq]
  refine wp_seq (may0 W _ (opEnc o V).toArray rfl rfl (by intro v hv; simp [opEnc] at hv; rcases hv with h | h | h | h | h | h | h | h | h | h | h | h | h | h | h | h <;> subst h <;> rfl) fun f0 a1 => ?_)
  have hB := World.alloc_heap_new W (.cells (opEnc o V).toArray 38)
  have hf0 := (Fr.refl N0 W).alloc (.cells (opEnc o V).toArray 38)
  obtain ⟨W0, hW0⟩ : ∃ W0, W.alloc (.cells (opEnc o V).toArray 38) = W0 := ⟨_, rfl⟩
  rw [hW0] at hB hf0 ⊢
  rw [opCells_eq] at hB
  refine wp_seq (may1 W0 f0 W.heap.size #[] o.kind o.start o.commit V.wa o.ws.length V.wc o.sch.pred o.sch.ty o.sch.list o.sch.exact_ o.sch.term o.sch.order o.sch.rev o.sch.count o.pred o.at_ V.ta o.nt V.tc V.pa o.np V.pc a1 hB fun f1 W1 b1 b3 b4 hA1 hB1 hf1 => ?_)
  have hfW1 := hf0.then0 hf1
  have hlt := lt_of_block hB
  have hne : W.heap.size ≠ W0.heap.size := by omega
  have hfin : ∀ W2, Fr (fun j => j = W0.heap.size) W1 W2 → Fr N0 W W2 := fun W2 hf => hfW1.trans hf fun k e => .inr (by omega)
  clear hW0
  by_cases k1 : o.kind = 1
  · rw [k1] at hA1 hB1
    refine wp_seq (may2a W1 f1 W.heap.size W0.heap.size hne o.start o.commit V.wa o.ws.length V.wc o.sch o.pred o.at_ V.ta o.nt V.tc V.pa o.np V.pc (b1.trans a1) b3 b4 hA1 hB1 fun f2 W2 c3 c4 hc hf2 => ?_)
    refine hend 1 _ W0.heap.size W2 f2 o.ws.length o.start o.commit Sch.zero _ _ (hfin W2 hf2) (c3.trans b3) c4 hc ?_
    unfold Op.ok
    simp only [k1, hN, beq_iff_eq]
    constructor
    · rintro ⟨g1, g2, g3, g4, -, g6, g7, g8, g9⟩
      exact ⟨g6, g7, g8, g9, .inl ⟨by trivial, by simpa using g1, g2, g3, g4⟩⟩
    · rintro ⟨g6, g7, g8, g9, g | g | g⟩
      · exact ⟨by simpa using g.2.1, g.2.2.1, g.2.2.2.1, g.2.2.2.2, by trivial, g6, g7, g8, g9⟩
      · exact absurd g.1 (by decide)
      · exact absurd g.1 (by decide)
  by_cases k2 : o.kind = 2
  · rw [k2] at hA1 hB1
    refine wp_seq (may2b W1 f1 W.heap.size W0.heap.size hne o.start o.commit V.wa o.ws.length V.wc o.sch o.pred o.at_ V.ta o.nt V.tc V.pa o.np V.pc _ (fun W' hf hl => hC W' (hfW1.then0 hf) hl) (b1.trans a1) b3 b4 hA1 hB1 fun f2 W2 ok c3 c4 hok hc hf2 => ?_)
    refine hend 2 ok W0.heap.size W2 f2 0 0 o.commit o.sch _ _ (hfin W2 hf2) (c3.trans b3) c4 hc ?_
    unfold Op.ok
    rw [hok, hA]
    simp only [k2, hN, ne_eq]
    constructor
    · rintro ⟨⟨q1, q2, q3, q4⟩, -, g3, -, g5, g6, g7, g8, g9⟩
      exact ⟨g6, g7, g8, g9, .inr (.inl ⟨by trivial, q1, by omega, q3, q4, g3, g5⟩)⟩
    · rintro ⟨g6, g7, g8, g9, g | g | g⟩
      · exact absurd g.1 (by decide)
      · exact ⟨⟨g.2.1, by have := g.2.2.1; omega, g.2.2.2.1, g.2.2.2.2.1⟩, by trivial, g.2.2.2.2.2.1, by trivial, g.2.2.2.2.2.2, g6, g7, g8, g9⟩
      · exact absurd g.1 (by decide)
  by_cases k3 : o.kind = 3
  · rw [k3] at hA1 hB1
    refine wp_seq (may2c W1 f1 W.heap.size W0.heap.size hne o.start o.commit V.wa o.ws.length V.wc o.sch o.pred o.at_ V.ta o.nt V.tc V.pa o.np V.pc (b1.trans a1) b3 b4 hA1 hB1 fun f2 W2 ok c3 c4 hok hc hf2 => ?_)
    refine hend 3 ok W0.heap.size W2 f2 o.ws.length 0 0 o.sch _ _ (hfin W2 hf2) (c3.trans b3) c4 hc ?_
    unfold Op.ok
    rw [hok]
    simp only [k3, hN]
    constructor
    · rintro ⟨⟨q1, q2⟩, -, -, g4, g5, g6, g7, g8, g9⟩
      exact ⟨g6, g7, g8, g9, .inr (.inr ⟨by trivial, q1, q2, g4, g5⟩)⟩
    · rintro ⟨g6, g7, g8, g9, g | g | g⟩
      · exact absurd g.1 (by decide)
      · exact absurd g.1 (by decide)
      · exact ⟨⟨g.2.1, g.2.2.1⟩, by trivial, by trivial, g.2.2.2.1, g.2.2.2.2, g6, g7, g8, g9⟩
  · refine wp_seq (may2d W1 f1 W.heap.size W0.heap.size hne o.kind o.start o.commit V.wa o.ws.length V.wc o.sch o.pred o.at_ V.ta o.nt V.tc V.pa o.np V.pc k1 k2 k3 h4 h5 h6 (b1.trans a1) b3 b4 hA1 hB1 fun f2 W2 ok c3 c4 hok hc hf2 => ?_)
    refine hend o.kind ok W0.heap.size W2 f2 o.ws.length o.start o.commit o.sch _ _ (hfin W2 hf2) (c3.trans b3) c4 hc ?_
    unfold Op.ok
    rw [hok]
    constructor
    · rintro ⟨g, -⟩; exact g.elim
    · rintro ⟨-, -, -, -, g | g | g⟩
      · exact absurd g.1 k1
      · exact absurd g.1 k2
      · exact absurd g.1 k3
end Go.Proofs.YtefepfiijoafbaaGreat
