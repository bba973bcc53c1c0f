/- TxnPlays' round: the steps, the comparison, what is kept. TxnPlays: the loop and the whole. -/
import Derived.Test.YthidminepegnoaaGreatDoorQTpA
import Derived.Test.YthidminepegnoaaGreatDoorQStep2
import Derived.Test.YthidminepegnoaaGreatDoorQMay
import Derived.Test.YthidminepegnoaaGreatDoorQStepS
namespace Go.Proofs.YthidminepegnoaaGreatDoor
open Go.RowKit Go.Shelf Go.Maps Go.Sort
attribute [local go_sem] Oper.semAt_some
attribute [local irreducible] wpQuiet
set_option linter.unusedVariables false
set_option linter.unusedSimpArgs false

/-- Two boxes, written one behind the other. -/
theorem lv_two {w W : World} {A B : Nat} {T0 T : Txn} {aw ak an ag al aw2 ak2 an2 ag2 al2 aw3 ak3 an3 ag3 al3 aw4 ak4 an4 ag4 al4 : Option Addr} {cw ck cn cg cl cw2 ck2 cn2 cg2 cl2 cw3 ck3 cn3 cg3 cl3 cw4 ck4 cn4 cg4 cl4 : Nat} (hA : W.heap[A]? = some (.cells #[.int .u8 T0.phase, .int .u64 T0.start, .int .u64 T0.commit, .slice aw T0.writes.length cw, .slice ak T0.keys.length ck, .slice an T0.needs.length cn, .slice ag T0.groups.length cg, .slice al T0.left.length cl, .bool T0.failed] 32 (0, 0))) (hB : W.heap[B]? = some (.cells #[.int .u8 T0.phase, .int .u64 T0.start, .int .u64 T0.commit, .slice aw2 T0.writes.length cw2, .slice ak2 T0.keys.length ck2, .slice an2 T0.needs.length cn2, .slice ag2 T0.groups.length cg2, .slice al2 T0.left.length cl2, .bool T0.failed] 32 (0, 0)))
    (hT3 : IsTxn W (.agg #[.int .u8 T.phase, .int .u64 T.start, .int .u64 T.commit, .slice aw3 T.writes.length cw3, .slice ak3 T.keys.length ck3, .slice an3 T.needs.length cn3, .slice ag3 T.groups.length cg3, .slice al3 T.left.length cl3, .bool T.failed]) T) (hT4 : IsTxn W (.agg #[.int .u8 T.phase, .int .u64 T.start, .int .u64 T.commit, .slice aw4 T.writes.length cw4, .slice ak4 T.keys.length ck4, .slice an4 T.needs.length cn4, .slice ag4 T.groups.length cg4, .slice al4 T.left.length cl4, .bool T.failed]) T) (hF : Fr N0 w W) (hwA : w.heap.size ≤ A) (hwB : w.heap.size ≤ B) (hAB : A ≠ B) :
    Lv w ((((((((((((((((((W.setCell ⟨A, 0, none⟩ (.int .u8 T.phase)).setCell ⟨A, 1, none⟩ (.int .u64 T.start)).setCell ⟨A, 2, none⟩ (.int .u64 T.commit)).setCell ⟨A, 3, none⟩ (.slice aw3 T.writes.length cw3)).setCell ⟨A, 4, none⟩ (.slice ak3 T.keys.length ck3)).setCell ⟨A, 5, none⟩ (.slice an3 T.needs.length cn3)).setCell ⟨A, 6, none⟩ (.slice ag3 T.groups.length cg3)).setCell ⟨A, 7, none⟩ (.slice al3 T.left.length cl3)).setCell ⟨A, 8, none⟩ (.bool T.failed)).setCell ⟨B, 0, none⟩ (.int .u8 T.phase)).setCell ⟨B, 1, none⟩ (.int .u64 T.start)).setCell ⟨B, 2, none⟩ (.int .u64 T.commit)).setCell ⟨B, 3, none⟩ (.slice aw4 T.writes.length cw4)).setCell ⟨B, 4, none⟩ (.slice ak4 T.keys.length ck4)).setCell ⟨B, 5, none⟩ (.slice an4 T.needs.length cn4)).setCell ⟨B, 6, none⟩ (.slice ag4 T.groups.length cg4)).setCell ⟨B, 7, none⟩ (.slice al4 T.left.length cl4)).setCell ⟨B, 8, none⟩ (.bool T.failed)) A T ∧ Lv w ((((((((((((((((((W.setCell ⟨A, 0, none⟩ (.int .u8 T.phase)).setCell ⟨A, 1, none⟩ (.int .u64 T.start)).setCell ⟨A, 2, none⟩ (.int .u64 T.commit)).setCell ⟨A, 3, none⟩ (.slice aw3 T.writes.length cw3)).setCell ⟨A, 4, none⟩ (.slice ak3 T.keys.length ck3)).setCell ⟨A, 5, none⟩ (.slice an3 T.needs.length cn3)).setCell ⟨A, 6, none⟩ (.slice ag3 T.groups.length cg3)).setCell ⟨A, 7, none⟩ (.slice al3 T.left.length cl3)).setCell ⟨A, 8, none⟩ (.bool T.failed)).setCell ⟨B, 0, none⟩ (.int .u8 T.phase)).setCell ⟨B, 1, none⟩ (.int .u64 T.start)).setCell ⟨B, 2, none⟩ (.int .u64 T.commit)).setCell ⟨B, 3, none⟩ (.slice aw4 T.writes.length cw4)).setCell ⟨B, 4, none⟩ (.slice ak4 T.keys.length ck4)).setCell ⟨B, 5, none⟩ (.slice an4 T.needs.length cn4)).setCell ⟨B, 6, none⟩ (.slice ag4 T.groups.length cg4)).setCell ⟨B, 7, none⟩ (.slice al4 T.left.length cl4)).setCell ⟨B, 8, none⟩ (.bool T.failed)) B T := by
  have h1 := told_store (w := w) (R := A) hwA hA (dull_txn _ _ _ _ _ _ _ _ _ _ _ _ _ _ _ _ _ _ _) hT3 (outs_nil _) hF
  have hx1 := txn_box_fr (v0 := (.int .u8 T.phase)) (v1 := (.int .u64 T.start)) (v2 := (.int .u64 T.commit)) (v3 := (.slice aw3 T.writes.length cw3)) (v4 := (.slice ak3 T.keys.length ck3)) (v5 := (.slice an3 T.needs.length cn3)) (v6 := (.slice ag3 T.groups.length cg3)) (v7 := (.slice al3 T.left.length cl3)) (v8 := (.bool T.failed)) (Fr.refl (fun k => k = A) W) (.inl rfl)
  have hT4' := hT4.past hA (dull_txn _ _ _ _ _ _ _ _ _ _ _ _ _ _ _ _ _ _ _) hx1
  have hB1 := (hx1.at (k := B) (fun h => hAB h.symm) (lt_of_block hB)).trans hB
  have h2 := told_store (w := w) (R := B) hwB hB1 (dull_txn _ _ _ _ _ _ _ _ _ _ _ _ _ _ _ _ _ _ _) hT4' (outs_nil _) h1.2.2.2
  have hx2 := txn_box_fr (v0 := (.int .u8 T.phase)) (v1 := (.int .u64 T.start)) (v2 := (.int .u64 T.commit)) (v3 := (.slice aw4 T.writes.length cw4)) (v4 := (.slice ak4 T.keys.length ck4)) (v5 := (.slice an4 T.needs.length cn4)) (v6 := (.slice ag4 T.groups.length cg4)) (v7 := (.slice al4 T.left.length cl4)) (v8 := (.bool T.failed)) (Fr.refl (fun k => k = B) (((((((((W.setCell ⟨A, 0, none⟩ (.int .u8 T.phase)).setCell ⟨A, 1, none⟩ (.int .u64 T.start)).setCell ⟨A, 2, none⟩ (.int .u64 T.commit)).setCell ⟨A, 3, none⟩ (.slice aw3 T.writes.length cw3)).setCell ⟨A, 4, none⟩ (.slice ak3 T.keys.length ck3)).setCell ⟨A, 5, none⟩ (.slice an3 T.needs.length cn3)).setCell ⟨A, 6, none⟩ (.slice ag3 T.groups.length cg3)).setCell ⟨A, 7, none⟩ (.slice al3 T.left.length cl3)).setCell ⟨A, 8, none⟩ (.bool T.failed))) (.inl rfl)
  have hA2 := (hx2.at (k := A) hAB (lt_of_block h1.1)).trans h1.1
  exact ⟨⟨_, _, _, _, _, _, _, _, _, _, hA2, h1.2.1.past hB1 (dull_txn _ _ _ _ _ _ _ _ _ _ _ _ _ _ _ _ _ _ _) hx2, h2.2.2.2⟩, ⟨_, _, _, _, _, _, _, _, _, _, h2.1, h2.2.1, h2.2.2.2⟩⟩

set_option maxRecDepth 100000 in
set_option maxHeartbeats 4000000 in
/-- u, outs, e := step(k, t, a) -/
theorem tp3 {K : Act → World → Prop} {Q : Exit → Act → World → Prop} (w W : World) (f : Nat → Value) (m A B : Nat) (T T' : Txn) (O : List Out) (err : Int) (r : AkV) (hs : r.Sl) (h10 : f 10 = .int .i64 m) (h5 : f 5 = .pointer (some ⟨A, 0, none⟩)) (hL : Lv w W A T) (h9 : f 9 = .pointer (some ⟨B, 0, none⟩)) (hb : W.heap[B]? = some (.cells r.enc.toArray 49 (0, 0)))
    (hX : ∀ v, IsTxn W v T → Calls Tryz.prog 12 #[.int .i64 m, v, .agg r.enc.toArray] W fun e w' => StepPost W T' O err e w')
    (hK : ∀ f' W' C, f' 0 = f 0 → f' 1 = f 1 → f' 5 = f 5 → f' 7 = f 7 → f' 8 = f 8 → f' 9 = f 9 → f' 10 = f 10 → f' 11 = .pointer (some ⟨C, 0, none⟩) → f' 13 = .int .i64 err → Sent W' (f' 12) O → Lv w W' C T' → Fr N0 W W' → W.heap.size ≤ C → K (frA 119 f') W') :
    Code.wp Tryz.prog (tpCode 3) (Exit.then K Q) (frA 119 f) W := by
  obtain ⟨aw, cw, ak, ck, an, cn, ag, cg, al, cl, ha, hT, hF⟩ := hL
  obtain ⟨mb, nb, lb⟩ := box_cells ha
  obtain ⟨⟨ac, af, am, tp, tg, tt, ta, tu⟩, rl, rw_, rt, rg, rc, rp⟩ := r
  obtain ⟨⟨la, ln, lc, h⟩, ⟨wa, wn, wc, h'⟩, ⟨ta_, tn_, tc_, h''⟩⟩ := hs
  simp only at h h' h''
  subst h h' h''
  have hb' : W.heap[B]? = some (.cells #[.int .i64 ac, .int .u64 af, .int .u64 am, .string tp, .int .u32 tg, .int .u32 tt, .int .u64 ta, .int .u64 tu, .slice la ln lc, .slice wa wn wc, .slice ta_ tn_ tc_, .int .u32 rg, .int .i64 rc, .string rp] 49 (0, 0)) := hb
  replace hX := fun v h => hX v h
  obtain ⟨m0, n0, l0⟩ := box_cells hb'
  clear hb'
  have HT := Lib.hid hT; have HF := Lib.hid hF; have HX := Lib.hid hX; have HK := Lib.hid hK
  clear hb ha hT hF hX hK
  have H5 := Lib.hid h5; have H9 := Lib.hid h9; have H10 := Lib.hid h10
  show Code.wp _ _ _ { tmps := #[f 0, f 1, f 2, f 3, f 4, f 5, f 6, f 7, f 8, f 9, f 10, f 11, f 12, f 13, f 14, f 15, f 16, f 17, f 18, f 19, f 20, f 21, f 22, f 23, f 24, f 25, f 26, f 27, f 28, f 29, f 30, f 31, f 32, f 33, f 34, f 35, f 36, f 37, f 38, f 39, f 40, f 41, f 42, f 43, f 44, f 45, f 46, f 47, f 48, f 49, f 50, f 51, f 52, f 53, f 54, f 55, f 56, f 57, f 58, f 59, f 60, f 61, f 62, f 63, f 64, f 65, f 66, f 67, f 68, f 69, f 70, f 71, f 72, f 73, f 74, f 75, f 76, f 77, f 78, f 79, f 80, f 81, f 82, f 83, f 84, f 85, f 86, f 87, f 88, f 89, f 90, f 91, f 92, f 93, f 94, f 95, f 96, f 97, f 98, f 99, f 100, f 101, f 102, f 103, f 104, f 105, f 106, f 107, f 108, f 109, f 110, f 111, f 112, f 113, f 114, f 115, f 116, f 117, f 118], defers := [] } _
  rw [h5, h9, h10]
  clear h5 h9 h10
  conv => arg 2; whnf
  go_wp2_with fail
  refine (HX.out _ HT.out).mono ?_
  rintro e w2 ⟨v2, vo2, rfl, ⟨vw2, vk2, vn2, vg2, vl2, rfl, hT2⟩, hO2, hf2⟩
  obtain ⟨⟨aw2, cw2, rfl⟩, ⟨ak2, ck2, rfl⟩, ⟨an2, cn2, rfl⟩, ⟨ag2, cg2, rfl⟩, ⟨al2, cl2, rfl⟩⟩ := hT2.shapes
  have HT2 := Lib.hid hT2; have HO2 := Lib.hid hO2; have HF2 := Lib.hid hf2
  clear hT2 hO2 hf2 mb nb lb m0 n0 l0 HX HT
  go_wp2
  (refine cut_use (n := 119) (K := K) _ rfl ?_; exact HK.out _ _ w2.heap.size rfl rfl H5.out.symm rfl rfl H9.out.symm H10.out.symm rfl rfl (HO2.out.fr0 ((Fr.refl _ _).alloc _)) ⟨_, _, _, _, _, _, _, _, _, _, blkN rfl, IsTxn.fr0 ⟨_, _, _, _, _, rfl, HT2.out⟩ ((Fr.refl _ _).alloc _), (HF.out.then0 HF2.out).alloc _⟩ (HF2.out.alloc _) HF2.out.size)

set_option maxRecDepth 100000 in
set_option maxHeartbeats 4000000 in
/-- y, want, f := wanted(k, x, a) -/
theorem tp4 {K : Act → World → Prop} {Q : Exit → Act → World → Prop} (w W : World) (f : Nat → Value) (m A B : Nat) (T T' : Txn) (O : List Out) (err : Int) (r : AkV) (hs : r.Sl) (h10 : f 10 = .int .i64 m) (h7 : f 7 = .pointer (some ⟨A, 0, none⟩)) (hL : Lv w W A T) (h9 : f 9 = .pointer (some ⟨B, 0, none⟩)) (hb : W.heap[B]? = some (.cells r.enc.toArray 49 (0, 0)))
    (hX : ∀ v, IsTxn W v T → Calls Tryz.prog 13 #[.int .i64 m, v, .agg r.enc.toArray] W fun e w' => StepPost W T' O err e w')
    (hK : ∀ f' W' C, f' 0 = f 0 → f' 1 = f 1 → f' 5 = f 5 → f' 7 = f 7 → f' 8 = f 8 → f' 11 = f 11 → f' 12 = f 12 → f' 13 = f 13 → f' 14 = .pointer (some ⟨C, 0, none⟩) → f' 16 = .int .i64 err → Sent W' (f' 15) O → Lv w W' C T' → Fr N0 W W' → W.heap.size ≤ C → K (frA 119 f') W') :
    Code.wp Tryz.prog (tpCode 4) (Exit.then K Q) (frA 119 f) W := by
  obtain ⟨aw, cw, ak, ck, an, cn, ag, cg, al, cl, ha, hT, hF⟩ := hL
  obtain ⟨mb, nb, lb⟩ := box_cells ha
  obtain ⟨⟨ac, af, am, tp, tg, tt, ta, tu⟩, rl, rw_, rt, rg, rc, rp⟩ := r
  obtain ⟨⟨la, ln, lc, h⟩, ⟨wa, wn, wc, h'⟩, ⟨ta_, tn_, tc_, h''⟩⟩ := hs
  simp only at h h' h''
  subst h h' h''
  have hb' : W.heap[B]? = some (.cells #[.int .i64 ac, .int .u64 af, .int .u64 am, .string tp, .int .u32 tg, .int .u32 tt, .int .u64 ta, .int .u64 tu, .slice la ln lc, .slice wa wn wc, .slice ta_ tn_ tc_, .int .u32 rg, .int .i64 rc, .string rp] 49 (0, 0)) := hb
  replace hX := fun v h => hX v h
  obtain ⟨m0, n0, l0⟩ := box_cells hb'
  clear hb'
  have HT := Lib.hid hT; have HF := Lib.hid hF; have HX := Lib.hid hX; have HK := Lib.hid hK
  clear hb ha hT hF hX hK
  have H7 := Lib.hid h7; have H9 := Lib.hid h9; have H10 := Lib.hid h10
  show Code.wp _ _ _ { tmps := #[f 0, f 1, f 2, f 3, f 4, f 5, f 6, f 7, f 8, f 9, f 10, f 11, f 12, f 13, f 14, f 15, f 16, f 17, f 18, f 19, f 20, f 21, f 22, f 23, f 24, f 25, f 26, f 27, f 28, f 29, f 30, f 31, f 32, f 33, f 34, f 35, f 36, f 37, f 38, f 39, f 40, f 41, f 42, f 43, f 44, f 45, f 46, f 47, f 48, f 49, f 50, f 51, f 52, f 53, f 54, f 55, f 56, f 57, f 58, f 59, f 60, f 61, f 62, f 63, f 64, f 65, f 66, f 67, f 68, f 69, f 70, f 71, f 72, f 73, f 74, f 75, f 76, f 77, f 78, f 79, f 80, f 81, f 82, f 83, f 84, f 85, f 86, f 87, f 88, f 89, f 90, f 91, f 92, f 93, f 94, f 95, f 96, f 97, f 98, f 99, f 100, f 101, f 102, f 103, f 104, f 105, f 106, f 107, f 108, f 109, f 110, f 111, f 112, f 113, f 114, f 115, f 116, f 117, f 118], defers := [] } _
  rw [h7, h9, h10]
  clear h7 h9 h10
  conv => arg 2; whnf
  go_wp2_with fail
  refine (HX.out _ HT.out).mono ?_
  rintro e w2 ⟨v2, vo2, rfl, ⟨vw2, vk2, vn2, vg2, vl2, rfl, hT2⟩, hO2, hf2⟩
  obtain ⟨⟨aw2, cw2, rfl⟩, ⟨ak2, ck2, rfl⟩, ⟨an2, cn2, rfl⟩, ⟨ag2, cg2, rfl⟩, ⟨al2, cl2, rfl⟩⟩ := hT2.shapes
  have HT2 := Lib.hid hT2; have HO2 := Lib.hid hO2; have HF2 := Lib.hid hf2
  clear hT2 hO2 hf2 mb nb lb m0 n0 l0 HX HT
  go_wp2
  (refine cut_use (n := 119) (K := K) _ rfl ?_; exact HK.out _ _ w2.heap.size rfl rfl rfl H7.out.symm rfl rfl rfl rfl rfl rfl (HO2.out.fr0 ((Fr.refl _ _).alloc _)) ⟨_, _, _, _, _, _, _, _, _, _, blkN rfl, IsTxn.fr0 ⟨_, _, _, _, _, rfl, HT2.out⟩ ((Fr.refl _ _).alloc _), (HF.out.then0 HF2.out).alloc _⟩ (HF2.out.alloc _) HF2.out.size)

set_option maxRecDepth 100000 in
set_option maxHeartbeats 4000000 in
/-- is it the same? -/
theorem tp5 {K : Act → World → Prop} {Q : Exit → Act → World → Prop} (w W : World) (f : Nat → Value) (A B : Nat) (T : Txn) (O : List Out) (err : Int) (h11 : f 11 = .pointer (some ⟨A, 0, none⟩)) (h14 : f 14 = .pointer (some ⟨B, 0, none⟩)) (hA : Lv w W A T) (hB : Lv w W B T) (h13 : f 13 = .int .i64 err) (h16 : f 16 = .int .i64 err)
    (h12 : Sent W (f 12) O) (h15 : Sent W (f 15) O) (hS : T.writes.length ≤ 1000000 ∧ T.keys.length ≤ 1000000 ∧ T.needs.length ≤ 1000000 ∧ T.groups.length ≤ 1000000 ∧ T.left.length ≤ 1000000)
    (hl : O.length ≤ 1000000) (hs : ∀ o ∈ O, o.okeys.length ≤ 1000000 ∧ o.oneeds.length ≤ 1000000 ∧ o.swrites.length ≤ 1000000)
    (hK : ∀ f' W', f' 0 = f 0 → f' 1 = f 1 → f' 5 = f 5 → f' 7 = f 7 → f' 8 = f 8 → f' 11 = f 11 → f' 13 = f 13 → f' 14 = f 14 → Fr N0 W W' → K (frA 119 f') W') :
    Code.wp Tryz.prog (tpCode 5) (Exit.then K Q) (frA 119 f) W := by
  have hX := fun (W' : World) (hf : Fr N0 W W') v v' (h : IsTxn W v T) (h' : IsTxn W v' T) => rSame_any W' v v' T (h.fr0 hf) (h'.fr0 hf) hS.1 hS.2.1 hS.2.2.1 hS.2.2.2.1 hS.2.2.2.2
  have hY := fun (W' : World) (hf : Fr N0 W W') => lSameOuts_any W' (f 12) (f 15) O (Outs.fr0 h12 hf) (Outs.fr0 h15 hf) hl hs
  obtain ⟨aw, cw, ak, ck, an, cn, ag, cg, al, cl, ha, hT, hF⟩ := hA
  obtain ⟨mb, nb, lb⟩ := box_cells ha
  obtain ⟨aw2, cw2, ak2, ck2, an2, cn2, ag2, cg2, al2, cl2, hb, hT2, hF2⟩ := hB
  obtain ⟨m0, n0, l0⟩ := box_cells hb
  have HT := Lib.hid hT; have HT2 := Lib.hid hT2; have HX := Lib.hid hX; have HY := Lib.hid hY; have HK := Lib.hid hK
  clear hb ha hT hF hT2 hF2 hX hY hK hS hl hs h12 h15
  have H11 := Lib.hid h11; have H13 := Lib.hid h13; have H14 := Lib.hid h14
  show Code.wp _ _ _ { tmps := #[f 0, f 1, f 2, f 3, f 4, f 5, f 6, f 7, f 8, f 9, f 10, f 11, f 12, f 13, f 14, f 15, f 16, f 17, f 18, f 19, f 20, f 21, f 22, f 23, f 24, f 25, f 26, f 27, f 28, f 29, f 30, f 31, f 32, f 33, f 34, f 35, f 36, f 37, f 38, f 39, f 40, f 41, f 42, f 43, f 44, f 45, f 46, f 47, f 48, f 49, f 50, f 51, f 52, f 53, f 54, f 55, f 56, f 57, f 58, f 59, f 60, f 61, f 62, f 63, f 64, f 65, f 66, f 67, f 68, f 69, f 70, f 71, f 72, f 73, f 74, f 75, f 76, f 77, f 78, f 79, f 80, f 81, f 82, f 83, f 84, f 85, f 86, f 87, f 88, f 89, f 90, f 91, f 92, f 93, f 94, f 95, f 96, f 97, f 98, f 99, f 100, f 101, f 102, f 103, f 104, f 105, f 106, f 107, f 108, f 109, f 110, f 111, f 112, f 113, f 114, f 115, f 116, f 117, f 118], defers := [] } _
  rw [h11, h14, h13, h16]
  clear h11 h14 h13 h16
  conv => arg 2; whnf
  go_wp2_with fail
  refine (HX.out _ (Fr.refl _ _) _ _ HT.out HT2.out).mono ?_
  rintro e w2 ⟨rfl, hf2⟩
  have HF2 := Lib.hid hf2
  clear hf2 mb nb lb m0 n0 l0 HX HT HT2
  go_wp2_with fail
  refine (HY.out _ HF2.out).mono ?_
  rintro e w3 ⟨rfl, hf3⟩
  have HF3 := Lib.hid hf3
  clear hf3
  go_wp2
  (refine cut_use (n := 119) (K := K) _ rfl ?_; exact HK.out _ _ rfl rfl rfl rfl rfl H11.out.symm H13.out.symm H14.out.symm (HF2.out.then0 HF3.out))

set_option maxRecDepth 100000 in
set_option maxHeartbeats 4000000 in
/-- was it refused? -/
theorem tp6 {K : Act → World → Prop} {Q : Exit → Act → World → Prop} (W : World) (f : Nat → Value) (err : Int) (h13 : f 13 = .int .i64 err)
    (hQ : err ≠ 0 → ∀ f', f' 0 = f 0 → f' 1 = f 1 → f' 5 = f 5 → f' 7 = f 7 → f' 8 = f 8 → Q (.exit 1) (frA 119 f') W)
    (hK : err = 0 → ∀ f', f' 0 = f 0 → f' 1 = f 1 → f' 5 = f 5 → f' 7 = f 7 → f' 8 = f 8 → f' 11 = f 11 → f' 14 = f 14 → K (frA 119 f') W) :
    Code.wp Tryz.prog (tpCode 6) (Exit.then K Q) (frA 119 f) W := by
  have HQ := Lib.hid hQ; have HK := Lib.hid hK
  clear hQ hK
  show Code.wp _ _ _ { tmps := #[f 0, f 1, f 2, f 3, f 4, f 5, f 6, f 7, f 8, f 9, f 10, f 11, f 12, f 13, f 14, f 15, f 16, f 17, f 18, f 19, f 20, f 21, f 22, f 23, f 24, f 25, f 26, f 27, f 28, f 29, f 30, f 31, f 32, f 33, f 34, f 35, f 36, f 37, f 38, f 39, f 40, f 41, f 42, f 43, f 44, f 45, f 46, f 47, f 48, f 49, f 50, f 51, f 52, f 53, f 54, f 55, f 56, f 57, f 58, f 59, f 60, f 61, f 62, f 63, f 64, f 65, f 66, f 67, f 68, f 69, f 70, f 71, f 72, f 73, f 74, f 75, f 76, f 77, f 78, f 79, f 80, f 81, f 82, f 83, f 84, f 85, f 86, f 87, f 88, f 89, f 90, f 91, f 92, f 93, f 94, f 95, f 96, f 97, f 98, f 99, f 100, f 101, f 102, f 103, f 104, f 105, f 106, f 107, f 108, f 109, f 110, f 111, f 112, f 113, f 114, f 115, f 116, f 117, f 118], defers := [] } _
  rw [h13]
  clear h13
  conv => arg 2; whnf
  by_cases h : err = 0
  · have HE := Lib.hid h
    subst h
    go_wp2
    (refine cut_use (n := 119) (K := K) _ rfl ?_; exact HK.out HE.out _ rfl rfl rfl rfl rfl rfl rfl)
  · go_wp2
    (refine cut_useQ (n := 119) (Q := Q) _ rfl ?_; exact HQ.out h _ rfl rfl rfl rfl rfl)

set_option maxRecDepth 100000 in
set_option maxHeartbeats 4000000 in
/-- t, x = u, y -/
theorem tp7 {K : Act → World → Prop} {Q : Exit → Act → World → Prop} (w W : World) (f : Nat → Value) (A B C D : Nat) (T0 T : Txn) (h5 : f 5 = .pointer (some ⟨A, 0, none⟩)) (h7 : f 7 = .pointer (some ⟨B, 0, none⟩)) (h11 : f 11 = .pointer (some ⟨C, 0, none⟩)) (h14 : f 14 = .pointer (some ⟨D, 0, none⟩))
    (hA : Lv w W A T0) (hB : Lv w W B T0) (hC : Lv w W C T) (hD : Lv w W D T) (hwA : w.heap.size ≤ A) (hwB : w.heap.size ≤ B) (hAB : A ≠ B) (hAC : A ≠ C) (hAD : A ≠ D) (hBC : B ≠ C) (hBD : B ≠ D) (hCD : C ≠ D)
    (hK : ∀ f' W', f' 0 = f 0 → f' 1 = f 1 → f' 5 = f 5 → f' 7 = f 7 → f' 8 = f 8 → Lv w W' A T → Lv w W' B T → K (frA 119 f') W') :
    Code.wp Tryz.prog (tpCode 7) (Exit.then K Q) (frA 119 f) W := by
  obtain ⟨aw, cw, ak, ck, an, cn, ag, cg, al, cl, ha, -, hF⟩ := hA
  obtain ⟨aw2, cw2, ak2, ck2, an2, cn2, ag2, cg2, al2, cl2, hb, -, -⟩ := hB
  obtain ⟨aw3, cw3, ak3, ck3, an3, cn3, ag3, cg3, al3, cl3, hc, hT3, -⟩ := hC
  obtain ⟨aw4, cw4, ak4, ck4, an4, cn4, ag4, cg4, al4, cl4, hd, hT4, -⟩ := hD
  obtain ⟨m1, n1, l1⟩ := box_cells ha
  obtain ⟨m2, n2, l2⟩ := box_cells hb
  obtain ⟨m3, n3, l3⟩ := box_cells hc
  obtain ⟨m4, n4, l4⟩ := box_cells hd
  have HA := Lib.hid ha; have HB := Lib.hid hb; have HT3 := Lib.hid hT3; have HT4 := Lib.hid hT4; have HF := Lib.hid hF; have HK := Lib.hid hK
  clear ha hb hc hd hT3 hT4 hF hK
  have H5 := Lib.hid h5; have H7 := Lib.hid h7
  show Code.wp _ _ _ { tmps := #[f 0, f 1, f 2, f 3, f 4, f 5, f 6, f 7, f 8, f 9, f 10, f 11, f 12, f 13, f 14, f 15, f 16, f 17, f 18, f 19, f 20, f 21, f 22, f 23, f 24, f 25, f 26, f 27, f 28, f 29, f 30, f 31, f 32, f 33, f 34, f 35, f 36, f 37, f 38, f 39, f 40, f 41, f 42, f 43, f 44, f 45, f 46, f 47, f 48, f 49, f 50, f 51, f 52, f 53, f 54, f 55, f 56, f 57, f 58, f 59, f 60, f 61, f 62, f 63, f 64, f 65, f 66, f 67, f 68, f 69, f 70, f 71, f 72, f 73, f 74, f 75, f 76, f 77, f 78, f 79, f 80, f 81, f 82, f 83, f 84, f 85, f 86, f 87, f 88, f 89, f 90, f 91, f 92, f 93, f 94, f 95, f 96, f 97, f 98, f 99, f 100, f 101, f 102, f 103, f 104, f 105, f 106, f 107, f 108, f 109, f 110, f 111, f 112, f 113, f 114, f 115, f 116, f 117, f 118], defers := [] } _
  rw [h5, h7, h11, h14]
  clear h5 h7 h11 h14
  conv => arg 2; whnf
  refine Code.wp_mono (Q := Exit.then (fun a' W' => K a' W') (fun _ _ _ => False)) ?_ ?_
  case refine_1 =>
    intro e a' W' h
    cases e
    case' normal => exact h
    all_goals exact (h : False).elim
  go_region_law (fail)
  all_goals
    have h2 := lv_two HA.out HB.out HT3.out HT4.out HF.out hwA hwB hAB
    show K _ _
    refine cut_use (n := 119) (K := K) _ rfl ?_
    exact HK.out _ _ rfl rfl H5.out.symm H7.out.symm rfl (h2.1.fr0 (Fr.refl N0 _).drew) (h2.2.fr0 (Fr.refl N0 _).drew)

set_option maxRecDepth 100000 in
set_option maxHeartbeats 4000000 in
/-- may it be? -/
theorem tp8 {Q : Exit → Act → World → Prop} (w W : World) (f : Nat → Value) (A : Nat) (T : Txn) (hv : Inv T) (h5 : f 5 = .pointer (some ⟨A, 0, none⟩)) (hA : Lv w W A T)
    (hK : ∀ f' W', f' 0 = f 0 → f' 1 = f 1 → f' 5 = f 5 → f' 7 = f 7 → f' 8 = f 8 → Fr N0 W W' → Q .normal (frA 119 f') W') :
    Code.wp Tryz.prog tpLast Q (frA 119 f) W := by
  have hX := fun v (h : IsTxn W v T) => xMay_any W v T h hv
  obtain ⟨aw, cw, ak, ck, an, cn, ag, cg, al, cl, ha, hT, hF⟩ := hA
  obtain ⟨mb, nb, lb⟩ := box_cells ha
  have HT := Lib.hid hT; have HX := Lib.hid hX; have HK := Lib.hid hK
  clear ha hT hF hX hK hv
  have H5 := Lib.hid h5
  show Code.wp _ _ _ { tmps := #[f 0, f 1, f 2, f 3, f 4, f 5, f 6, f 7, f 8, f 9, f 10, f 11, f 12, f 13, f 14, f 15, f 16, f 17, f 18, f 19, f 20, f 21, f 22, f 23, f 24, f 25, f 26, f 27, f 28, f 29, f 30, f 31, f 32, f 33, f 34, f 35, f 36, f 37, f 38, f 39, f 40, f 41, f 42, f 43, f 44, f 45, f 46, f 47, f 48, f 49, f 50, f 51, f 52, f 53, f 54, f 55, f 56, f 57, f 58, f 59, f 60, f 61, f 62, f 63, f 64, f 65, f 66, f 67, f 68, f 69, f 70, f 71, f 72, f 73, f 74, f 75, f 76, f 77, f 78, f 79, f 80, f 81, f 82, f 83, f 84, f 85, f 86, f 87, f 88, f 89, f 90, f 91, f 92, f 93, f 94, f 95, f 96, f 97, f 98, f 99, f 100, f 101, f 102, f 103, f 104, f 105, f 106, f 107, f 108, f 109, f 110, f 111, f 112, f 113, f 114, f 115, f 116, f 117, f 118], defers := [] } _
  rw [h5]
  clear h5
  conv => arg 2; whnf
  go_wp2_with fail
  refine (HX.out _ HT.out).mono ?_
  rintro e w2 ⟨rfl, hf2⟩
  have HF2 := Lib.hid hf2
  clear hf2 mb nb lb HX HT
  go_wp2
  (refine cut_useQ (n := 119) (Q := Q) _ rfl ?_; exact HK.out _ _ rfl rfl H5.out.symm rfl rfl HF2.out)
end Go.Proofs.YthidminepegnoaaGreatDoor
namespace Go.Proofs.YthidminepegnoaaGreatDoor
open Go.RowKit Go.Shelf Go.Maps Go.Sort
attribute [local go_sem] Oper.semAt_some
attribute [local irreducible] wpQuiet
set_option linter.unusedVariables false
set_option linter.unusedSimpArgs false

set_option maxRecDepth 100000 in
set_option maxHeartbeats 4000000 in
/-- i < len(kinds) && i < len(asks) -/
theorem tpH {K : Act → World → Prop} {Q : Exit → Act → World → Prop} (W : World) (f : Nat → Value) (aK aA : Option Addr) (k nK cK nA cA : Nat) (h0 : f 0 = .slice aK nK cK) (h1 : f 1 = .slice aA nA cA) (h8 : f 8 = .int .i64 k) (hn : nK ≤ 60) (hn2 : nA ≤ 60) (hk : k ≤ 60)
    (hQ : ∀ f', Q (.exit 0) (frA 119 f') W)
    (hK : k < nK → k < nA → ∀ f', f' 0 = f 0 → f' 1 = f 1 → f' 5 = f 5 → f' 7 = f 7 → f' 8 = f 8 → K (frA 119 f') W) :
    Code.wp Tryz.prog (lvFst tpL) (Exit.then K Q) (frA 119 f) W := by
  have HQ := Lib.hid hQ; have HK := Lib.hid hK
  clear hQ hK
  have H0 := Lib.hid h0; have H1 := Lib.hid h1; have H8 := Lib.hid h8
  show Code.wp _ _ _ { tmps := #[f 0, f 1, f 2, f 3, f 4, f 5, f 6, f 7, f 8, f 9, f 10, f 11, f 12, f 13, f 14, f 15, f 16, f 17, f 18, f 19, f 20, f 21, f 22, f 23, f 24, f 25, f 26, f 27, f 28, f 29, f 30, f 31, f 32, f 33, f 34, f 35, f 36, f 37, f 38, f 39, f 40, f 41, f 42, f 43, f 44, f 45, f 46, f 47, f 48, f 49, f 50, f 51, f 52, f 53, f 54, f 55, f 56, f 57, f 58, f 59, f 60, f 61, f 62, f 63, f 64, f 65, f 66, f 67, f 68, f 69, f 70, f 71, f 72, f 73, f 74, f 75, f 76, f 77, f 78, f 79, f 80, f 81, f 82, f 83, f 84, f 85, f 86, f 87, f 88, f 89, f 90, f 91, f 92, f 93, f 94, f 95, f 96, f 97, f 98, f 99, f 100, f 101, f 102, f 103, f 104, f 105, f 106, f 107, f 108, f 109, f 110, f 111, f 112, f 113, f 114, f 115, f 116, f 117, f 118], defers := [] } _
  rw [h0, h1, h8]
  clear h0 h1 h8
  conv => arg 2; whnf
  by_cases h3 : (k : Int) < (nK : Int)
  · by_cases h4 : (k : Int) < (nA : Int)
    · go_wp2
      (refine cut_use (n := 119) (K := K) _ rfl ?_; exact HK.out (by omega) (by omega) _ H0.out.symm H1.out.symm rfl rfl H8.out.symm)
    · go_wp2
      (refine cut_useQ (n := 119) (Q := Q) _ rfl ?_; exact HQ.out _)
  · go_wp2
    (refine cut_useQ (n := 119) (Q := Q) _ rfl ?_; exact HQ.out _)

set_option maxRecDepth 100000 in
set_option maxHeartbeats 4000000 in
/-- i++ -/
theorem tpI {Q : Exit → Act → World → Prop} (W : World) (f : Nat → Value) (k : Nat) (h8 : f 8 = .int .i64 k) (hk : k < 60)
    (hK : ∀ f', f' 0 = f 0 → f' 1 = f 1 → f' 5 = f 5 → f' 7 = f 7 → f' 8 = .int .i64 ((k + 1 : Nat) : Int) → Q .normal (frA 119 f') W) :
    Code.wp Tryz.prog (tpStepOf tpL) Q (frA 119 f) W := by
  have HK := Lib.hid hK
  clear hK
  show Code.wp _ _ _ { tmps := #[f 0, f 1, f 2, f 3, f 4, f 5, f 6, f 7, f 8, f 9, f 10, f 11, f 12, f 13, f 14, f 15, f 16, f 17, f 18, f 19, f 20, f 21, f 22, f 23, f 24, f 25, f 26, f 27, f 28, f 29, f 30, f 31, f 32, f 33, f 34, f 35, f 36, f 37, f 38, f 39, f 40, f 41, f 42, f 43, f 44, f 45, f 46, f 47, f 48, f 49, f 50, f 51, f 52, f 53, f 54, f 55, f 56, f 57, f 58, f 59, f 60, f 61, f 62, f 63, f 64, f 65, f 66, f 67, f 68, f 69, f 70, f 71, f 72, f 73, f 74, f 75, f 76, f 77, f 78, f 79, f 80, f 81, f 82, f 83, f 84, f 85, f 86, f 87, f 88, f 89, f 90, f 91, f 92, f 93, f 94, f 95, f 96, f 97, f 98, f 99, f 100, f 101, f 102, f 103, f 104, f 105, f 106, f 107, f 108, f 109, f 110, f 111, f 112, f 113, f 114, f 115, f 116, f 117, f 118], defers := [] } _
  rw [h8]
  clear h8
  conv => arg 2; whnf
  go_wp2
  (refine cut_useQ (n := 119) (Q := Q) _ rfl ?_; exact HK.out _ rfl rfl rfl rfl (by go_num))

/-- What holds ahead of a round. -/
def TpS (w : World) (A B : Nat) (v0 v1 : Value) (k : Nat) (f : Nat → Value) (W : World) : Prop :=
  f 0 = v0 ∧ f 1 = v1 ∧ f 5 = .pointer (some ⟨A, 0, none⟩) ∧ f 7 = .pointer (some ⟨B, 0, none⟩) ∧ f 8 = .int .i64 k ∧ k ≤ 60 ∧ ∃ t, Inv t ∧ Lv w W A t ∧ Lv w W B t

theorem Lv.fr {w W : World} {A : Nat} {t : Txn} (h : Lv w W A t) : Fr N0 w W := by
  obtain ⟨_, _, _, _, _, _, _, _, _, _, -, -, h⟩ := h; exact h
theorem Lv.lt {w W : World} {A : Nat} {t : Txn} (h : Lv w W A t) : A < W.heap.size := by
  obtain ⟨_, _, _, _, _, _, _, _, _, _, h, -, -⟩ := h; exact lt_of_block h

theorem step_none {k : Nat} {t : Txn} {a : Ak} (h : (stepOf k t a).2 ≠ 0) : (stepOf k t a).1 = {} := by
  unfold stepOf sStarted sWrite sCommit sStaged sDecided sFinaled sGive at h ⊢
  repeat' split at h
  all_goals simp_all
  all_goals (split <;> rfl)
theorem step_short {k : Nat} {t : Txn} {a : Ak} {w : World} {r : AkV} (hv : Inv t) (ha : r.Is w a) : (stepOf k t a).1.writes.length ≤ 1000000 ∧ (stepOf k t a).1.keys.length ≤ 1000000 ∧ (stepOf k t a).1.needs.length ≤ 1000000 ∧ (stepOf k t a).1.groups.length ≤ 1000000 ∧ (stepOf k t a).1.left.length ≤ 1000000 := by
  by_cases h : (stepOf k t a).2 = 0
  · obtain ⟨h1, h2, h3, h4, h5⟩ := inv_short (inv_step hv ha h)
    omega
  · rw [step_none h]; simp

/-- A round. -/
theorem tpR {Q0 : Exit → Act → World → Prop} (w W : World) (A B k : Nat) (v0 v1 : Value) (f : Nat → Value) (hM : MaxAt w) (bK bA : Nat) (ks : List Int) (hks : Ints .u8 w bK v0 ks) (rs : List AkV) (hrs : RowsK AkV.enc 14 w bA v1 rs) (has : ∀ r ∈ rs, ∃ a, r.Is w a) (hk60 : ks.length ≤ 60) (ha60 : rs.length ≤ 60)
    (hwA : w.heap.size ≤ A) (hwB : w.heap.size ≤ B) (hAB : A ≠ B) (hI : TpS w A B v0 v1 k f W)
    (hx : ∀ f W', Fr N0 w W' → Q0 (.exit 0) (frA 119 f) W') (hr : ∀ f W', f 4 = .bool true → Fr N0 w W' → Q0 .ret (frA 119 f) W') :
    Code.wp Tryz.prog tpL (Exit.then (fun a' W' => k < 60 ∧ ∃ f', a' = frA 119 f' ∧ TpS w A B v0 v1 (k + 1) f' W') Q0) (frA 119 f) W := by
  obtain ⟨h0, h1, h5, h7, h8, hk, t, hv, hA, hB⟩ := hI
  have hF := hA.fr
  obtain ⟨aK, oK, cK, rfl, k1, k2, k3, -, k5, k6⟩ := hks
  obtain ⟨aA, oA, cA, rfl, a1, a2, a3, -, a5⟩ := hrs
  rw [tpL_eq]
  refine wp_seq (tpH W f aK aA k ks.length cK rs.length cA h0 h1 h8 hk60 ha60 hk (fun f' => hx f' W hF) fun hlt hlt2 f1 e0 e1 e5 e7 e8 => ?_)
  obtain rfl := k3 (by omega)
  obtain rfl := a3 (by omega)
  refine wp_seq (wp_block ?_)
  rw [tpB_eq]
  obtain ⟨r, hre⟩ : ∃ r, rs[k] = r := ⟨_, rfl⟩
  obtain ⟨a, ha⟩ := has r (hre ▸ List.getElem_mem hlt2)
  refine wp_seq (tp0 W f1 k rs.length cA bA oA r ha.sl (e1.trans h1) (e8.trans h8) hlt2 ha60 (fun c hc => by
    have hl : c < (rs[k].enc).length := hc
    have e := a5 k hlt2 c hc
    rw [List.getElem?_eq_getElem hl] at e
    rw [← hre, List.getElem?_eq_getElem hl]
    exact hF.cell id e) fun f2 W2 D g0 g1 g5 g7 g8 g9 hD hf2 => ?_)
  have hF2 := hF.then0 hf2
  refine wp_seq (tp1 W2 f2 D r a (ha.fr0 hF2) g9 hD (fun f' W' he hf' => hr f' W' he (hF2.then0 hf')) fun f3 W3 i0 i1 i5 i7 i8 i9 hf3 hl hw hb => ?_)
  have hF3 := hF2.then0 hf3
  have hD3 := hf3.held D hD
  have hxr := k6 ks[k] (List.getElem_mem hlt)
  have hxb : 0 ≤ ks[k] ∧ ks[k] < 256 := wf_u8' hxr
  obtain ⟨x, hxe⟩ : ∃ x : Nat, ks[k] = (x : Int) := ⟨ks[k].toNat, by omega⟩
  have hx256 : x < 256 := by omega
  refine wp_seq (tp2 W3 f3 k ks.length cK bK oK x (by rw [i0, g0, e0, h0]) (by rw [i8, g8, e8, h8]) hlt hk60 hx256 (by rw [← hxe]; exact hF3.cell id (k5 k hlt)) fun f4 W4 j0 j1 j5 j7 j8 j9 j10 hf4 => ?_)
  have hF4 := hF3.then0 hf4
  have hD4 := hf4.held D hD3
  have hA4 := ((hA.fr0 hf2).fr0 hf3).fr0 hf4
  have hB4 := ((hB.fr0 hf2).fr0 hf3).fr0 hf4
  have ha4 := ha.fr0 hF4
  have hm : x % 7 < 7 := Nat.mod_lt _ (by decide)
  obtain ⟨m, hme⟩ : ∃ m, x % 7 = m := ⟨_, rfl⟩
  rw [hme] at hm j10
  have q5 : f4 5 = .pointer (some ⟨A, 0, none⟩) := by rw [j5, i5, g5, e5, h5]
  have q7 : f4 7 = .pointer (some ⟨B, 0, none⟩) := by rw [j7, i7, g7, e7, h7]
  have q9 : f4 9 = .pointer (some ⟨D, 0, none⟩) := by rw [j9, i9, g9]
  refine wp_seq (tp3 w W4 f4 m A D t (stepOf m t a).1 (outsOf m t a) (stepOf m t a).2 r ha.sl j10 q5 hA4 q9 hD4 (fun v h => lStep_any m hm W4 v t h hv r a ha4 (hM.fr0 hF4) (by omega) (by omega) (by omega)) fun f5 W5 C l0 l1 l5 l7 l8 l9 l10 l11 l13 hS5 hC5 hf5 hWC => ?_)
  have hD5 := hf5.held D hD4
  have hA5 := hA4.fr0 hf5
  have hB5 := hB4.fr0 hf5
  have ha5 := ha4.fr0 hf5
  refine wp_seq (tp4 w W5 f5 m B D t (stepOf m t a).1 (outsOf m t a) (stepOf m t a).2 r ha.sl (l10.trans j10) (l7.trans q7) hB5 (l9.trans q9) hD5 (fun v h => lWanted_any m hm W5 v t h hv r a ha5 (by omega) (by omega) (by omega)) fun f6 W6 E n0 n1 n5 n7 n8 n11 n12 n13 n14 n16 hS6 hE6 hf6 hWE => ?_)
  have hA6 := hA5.fr0 hf6
  have hB6 := hB5.fr0 hf6
  have hC6 := hC5.fr0 hf6
  have hSh : (stepOf m t a).1.writes.length ≤ 1000000 ∧ (stepOf m t a).1.keys.length ≤ 1000000 ∧ (stepOf m t a).1.needs.length ≤ 1000000 ∧ (stepOf m t a).1.groups.length ≤ 1000000 ∧ (stepOf m t a).1.left.length ≤ 1000000 :=
    step_short hv ha5
  have hO := outs_short (k := m) hv ha5
  have hAC : A ≠ C := by have := hA4.lt; omega
  have hBC : B ≠ C := by have := hB4.lt; omega
  have hAE : A ≠ E := by have := hA5.lt; omega
  have hBE : B ≠ E := by have := hB5.lt; omega
  have hCE : C ≠ E := by have := hC5.lt; omega
  refine wp_seq (tp5 w W6 f6 C E (stepOf m t a).1 (outsOf m t a) (stepOf m t a).2 (n11.trans l11) n14 hC6 hE6 (n13.trans l13) n16 (by rw [n12]; exact Outs.fr0 hS5 hf6) hS6 hSh (by omega) hO.2 fun f7 W7 o0 o1 o5 o7 o8 o11 o13 o14 hf7 => ?_)
  have hA7 := hA6.fr0 hf7
  have hB7 := hB6.fr0 hf7
  have hC7 := hC6.fr0 hf7
  have hE7 := hE6.fr0 hf7
  have p0 : f7 0 = .slice (some ⟨bK, oK, none⟩) ks.length cK := by rw [o0, n0, l0, j0, i0, g0, e0, h0]
  have p1 : f7 1 = .slice (some ⟨bA, oA, none⟩) rs.length cA := by rw [o1, n1, l1, j1, i1, g1, e1, h1]
  have p5 : f7 5 = .pointer (some ⟨A, 0, none⟩) := by rw [o5, n5, l5, q5]
  have p7 : f7 7 = .pointer (some ⟨B, 0, none⟩) := by rw [o7, n7, l7, q7]
  have p8 : f7 8 = .int .i64 k := by rw [o8, n8, l8, j8, i8, g8, e8, h8]
  have hk1 : k < 60 := by omega
  have hend : ∀ (f8 : Nat → Value) (W8 : World) (t' : Txn), f8 0 = f7 0 → f8 1 = f7 1 → f8 5 = f7 5 → f8 7 = f7 7 → f8 8 = f7 8 → Inv t' → Lv w W8 A t' → Lv w W8 B t' →
      Code.wp Tryz.prog (tpStepOf tpL) (Exit.then (fun a' W' => k < 60 ∧ ∃ f', a' = frA 119 f' ∧ TpS w A B (.slice (some ⟨bK, oK, none⟩) ks.length cK) (.slice (some ⟨bA, oA, none⟩) rs.length cA) (k + 1) f' W') Q0) (frA 119 f8) W8 := fun f8 W8 t' s0 s1 s5 s7 s8 hv' hA8 hB8 =>
    tpI W8 f8 k (s8.trans p8) hk1 fun f9 u0 u1 u5 u7 u8 => ⟨hk1, f9, rfl, u0.trans (s0.trans p0), u1.trans (s1.trans p1), u5.trans (s5.trans p5), u7.trans (s7.trans p7), u8, hk1, t', hv', hA8, hB8⟩
  refine wp_seq (tp6 W7 f7 (stepOf m t a).2 (o13.trans (n13.trans l13)) (fun he f8 s0 s1 s5 s7 s8 => ?_) fun he f8 s0 s1 s5 s7 s8 s11 s14 => ?_)
  · show Exit.inBlock 1 _ (.exit 1) _ _
    rw [Exit.inBlock, if_pos rfl]
    exact hend f8 W7 t s0 s1 s5 s7 s8 hv hA7 hB7
  · have hv' := inv_step (k := m) hv ha5 he
    refine wp_seq (tp7 w W7 f8 A B C E t (stepOf m t a).1 (s5.trans p5) (s7.trans p7) (s11.trans (o11.trans (n11.trans l11))) (s14.trans (o14.trans n14)) hA7 hB7 hC7 hE7 hwA hwB hAB hAC hAE hBC hBE hCE fun f9 W9 u0 u1 u5 u7 u8 hA9 hB9 => ?_)
    refine tp8 w W9 f9 A (stepOf m t a).1 hv' (u5.trans (s5.trans p5)) hA9 fun f10 W10 x0 x1 x5 x7 x8 hf10 => ?_
    exact hend f10 W10 _ (x0.trans (u0.trans s0)) (x1.trans (u1.trans s1)) (x5.trans (u5.trans s5)) (x7.trans (u7.trans s7)) (x8.trans (u8.trans s8)) hv' (hA9.fr0 hf10) (hB9.fr0 hf10)
end Go.Proofs.YthidminepegnoaaGreatDoor
