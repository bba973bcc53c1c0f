/- lives, its regions: the two holds. lives, its regions: the stage command, and single calls. -/
import Derived.Deep.RegionHeld3
import Derived.Deep.DrawnRows
import Derived.Test.YtefepfiijoafbaaGreatQLsL
namespace Go.Proofs.YtefepfiijoafbaaGreat
open Go.RowKit Go.Shelf Go.Maps
attribute [local go_sem] Oper.semAt_some
attribute [local go_sem ↓] Go.wp_at_zero Go.wp_at_succ
attribute [local irreducible] wpQuiet
set_option linter.unusedVariables false
set_option linter.unusedSimpArgs false

noncomputable def llB (n : Nat) : Code := lvSuf n ((Tryz.f10.body).getD .skip)
abbrev Box2 (A : Nat) (cs : Array Value) (B : Nat) (ds : Array Value) (W : World) : Prop := BoxB A cs W ∧ BoxB B ds W
theorem box2_keep {T : Nat → Prop} {A B : Nat} {cs ds : Array Value} {W W' : World} (hf : Fr T W W') (hA : ¬ T A) (hB : ¬ T B) (h : Box2 A cs B ds W) : Box2 A cs B ds W' := ⟨boxB_keep hf hA h.1, boxB_keep hf hB h.2⟩
abbrev SchN : Array Value := #[.string ⟨#[110, 97, 109, 101]⟩, .int .u8 3, .bool false, .bool false, .bool false, .bool false, .bool false, .bool false]
abbrev SchO : Array Value := #[.string ⟨#[110, 97, 109, 101]⟩, .int .u8 2, .bool false, .bool false, .bool false, .bool false, .bool false, .bool false]

set_option maxRecDepth 100000 in
set_option maxHeartbeats 4000000 in
theorem ll5 {K : Act → World → Prop} {Q : Exit → Act → World → Prop} (w W : World) (R : Nat → Prop) (p A B : Nat) (f : Nat → Value) (h : Live w W R p SS.empty 0) (hA : BoxB A SchN W) (hB : BoxB B SchO W) (hAR : ¬ R A) (hBR : ¬ R B)
    (h1 : f 1 = .pointer (some ⟨p, 0, none⟩)) (h2 : f 2 = .pointer (some ⟨A, 0, none⟩)) (h3 : f 3 = .pointer (some ⟨B, 0, none⟩))
    (hK : ∀ f' W' R', f' 1 = .pointer (some ⟨p, 0, none⟩) → f' 4 = .int .i64 0 → f' 5 = .int .i64 202 → Live w W' R' p s1 2 → K (frA 115 f') W') :
    Code.wp Tryz.prog (lvFst (llB 5)) (Exit.then K Q) (frA 115 f) W := by
  have hL := h.fr (Fr.refl N0 W).drew
  have hb : Box2 A SchN B SchO W.drew := box2_keep (Fr.refl N0 W).drew id id ⟨hA, hB⟩
  have hlA := hA.2; have hlB := hB.2
  have c1 := live_H hL
  have HK := Lib.hid hK; have HB := Lib.hid hb; have HC1 := Lib.hid c1; have HAR := Lib.hid hAR; have HBR := Lib.hid hBR
  clear hK hb c1 hL h hA hB hAR hBR
  show Code.wp _ _ _ { tmps := #[f 0, f 1, f 2, f 3, f 4, f 5, f 6, f 7, f 8, f 9, f 10, f 11, f 12, f 13, f 14, f 15, f 16, f 17, f 18, f 19, f 20, f 21, f 22, f 23, f 24, f 25, f 26, f 27, f 28, f 29, f 30, f 31, f 32, f 33, f 34, f 35, f 36, f 37, f 38, f 39, f 40, f 41, f 42, f 43, f 44, f 45, f 46, f 47, f 48, f 49, f 50, f 51, f 52, f 53, f 54, f 55, f 56, f 57, f 58, f 59, f 60, f 61, f 62, f 63, f 64, f 65, f 66, f 67, f 68, f 69, f 70, f 71, f 72, f 73, f 74, f 75, f 76, f 77, f 78, f 79, f 80, f 81, f 82, f 83, f 84, f 85, f 86, f 87, f 88, f 89, f 90, f 91, f 92, f 93, f 94, f 95, f 96, f 97, f 98, f 99, f 100, f 101, f 102, f 103, f 104, f 105, f 106, f 107, f 108, f 109, f 110, f 111, f 112, f 113, f 114], defers := [] } _
  rw [h1, h2, h3]
  clear h1 h2 h3
  conv => arg 2; whnf
  go_region_held3 (Box2 A SchN B SchO) (first
    | (with_reducible assumption)
    | (with_reducible exact HB.out)
    | (with_reducible exact hbb1)
    | (with_reducible exact hbb2)
    | fail) (first
    | (go_simp; go_at_call 13; (with_reducible refine HC1.out.mono ?_); rintro e w2 ⟨rfl, ⟨R1, hL1, hR1⟩, hf1⟩; have hbb1 := box2_keep hf1 HAR.out HBR.out HB.out; have HC2 := Lib.hid (live_H2 hL1); have hA1 : ¬ R1 A := (fun hh => (hR1 A hh).elim HAR.out fun h => by have : W.drew.heap.size = W.heap.size := rfl; omega); have hB1 : ¬ R1 B := (fun hh => (hR1 B hh).elim HBR.out fun h => by have : W.drew.heap.size = W.heap.size := rfl; omega))
    | (go_simp; go_at_call 13; (with_reducible refine HC2.out.mono ?_); rintro e w3 ⟨rfl, ⟨R2, hL2, hR2⟩, hf2⟩; have hbb2 := box2_keep hf2 hA1 hB1 hbb1)
    | fail)
  refine cut_use (n := 115) (K := K) _ rfl ?_
  exact HK.out _ _ R2 rfl rfl rfl hL2
end Go.Proofs.YtefepfiijoafbaaGreat
namespace Go.Proofs.YtefepfiijoafbaaGreat
open Go.RowKit Go.Shelf Go.Maps
attribute [local go_sem] Oper.semAt_some
attribute [local irreducible] wpQuiet
set_option linter.unusedVariables false
set_option linter.unusedSimpArgs false

abbrev OpSC (S : Nat) : Array Value := #[.int .u8 2, .int .u64 3, .int .u64 0, .slice (some ⟨S, 0, none⟩) 1 1, .string ⟨#[]⟩, .int .u8 0, .bool false, .bool false, .bool false, .bool false, .bool false, .bool false, .string ⟨#[]⟩, .int .u64 0, .slice none 0 0, .slice none 0 0]
set_option maxRecDepth 100000 in
set_option maxHeartbeats 4000000 in
theorem ll6 {K : Act → World → Prop} {Q : Exit → Act → World → Prop} (W : World) (f : Nat → Value)
    (hK : ∀ f' W' S C, f' 1 = f 1 → f' 4 = f 4 → f' 5 = f 5 → f' 6 = .pointer (some ⟨C, 0, none⟩) → W.heap.size ≤ S → W.heap.size ≤ C → W'.heap[S]? = some (.cells xW.enc.toArray 61 (0, 0)) → W'.heap[C]? = some (.cells (OpSC S) 38 (0, 0)) → Fr N0 W W' → K (frA 115 f') W') :
    Code.wp Tryz.prog (lvFst (llB 6)) (Exit.then K Q) (frA 115 f) W := by
  have HK := Lib.hid hK
  clear hK
  have hT := fun W => lsText_any W bA
  have hP := fun W => lsPut_any W 1 bName ⟨3, false, 0, bA, 0⟩
  simp only [Val.enc, Wr.enc, bA, bName] at hT hP
  have HT := Lib.hid hT; have HP := Lib.hid hP
  clear hT hP
  show Code.wp _ _ _ { tmps := #[f 0, f 1, f 2, f 3, f 4, f 5, f 6, f 7, f 8, f 9, f 10, f 11, f 12, f 13, f 14, f 15, f 16, f 17, f 18, f 19, f 20, f 21, f 22, f 23, f 24, f 25, f 26, f 27, f 28, f 29, f 30, f 31, f 32, f 33, f 34, f 35, f 36, f 37, f 38, f 39, f 40, f 41, f 42, f 43, f 44, f 45, f 46, f 47, f 48, f 49, f 50, f 51, f 52, f 53, f 54, f 55, f 56, f 57, f 58, f 59, f 60, f 61, f 62, f 63, f 64, f 65, f 66, f 67, f 68, f 69, f 70, f 71, f 72, f 73, f 74, f 75, f 76, f 77, f 78, f 79, f 80, f 81, f 82, f 83, f 84, f 85, f 86, f 87, f 88, f 89, f 90, f 91, f 92, f 93, f 94, f 95, f 96, f 97, f 98, f 99, f 100, f 101, f 102, f 103, f 104, f 105, f 106, f 107, f 108, f 109, f 110, f 111, f 112, f 113, f 114], defers := [] } _
  conv => arg 2; whnf
  go_wp2_with fail
  refine (HT.out _).mono ?_
  rintro e w1 ⟨rfl, hf1⟩
  go_wp2_with fail
  refine (HP.out _).mono ?_
  rintro e w2 ⟨rfl, hf2⟩
  have hf := hf1.then0 hf2
  have HF := Lib.hid hf
  clear hf hf1 hf2
  go_wp2_with (go_loud (refine wpList_store_row rfl 38 _ _ rfl (w2.heap.size + 1) _ rfl rfl 38 _ (heap_alloc2_new _ _ _) opC_size rfl (by simp [Value.oneCell']) ?_); generalize hV : World.setRow _ _ _ = V; obtain ⟨hA, hB, hF, hZ⟩ := two_rows _ _ _ _ _ V hV)
  have hz := HF.out.size
  refine cut_use (n := 115) (K := K) _ rfl ?_
  exact HK.out _ V w2.heap.size (w2.heap.size + 1) rfl rfl rfl rfl (by omega) (by omega) hA hB (HF.out.then0 hF)

set_option maxRecDepth 100000 in
set_option maxHeartbeats 4000000 in
theorem ll8 {K : Act → World → Prop} {Q : Exit → Act → World → Prop} (w W : World) (R : Nat → Prop) (p : Nat) (f : Nat → Value) (h : Live w W R p s2 3) (h1 : f 1 = .pointer (some ⟨p, 0, none⟩))
    (hK : ∀ f' W', f' 1 = f 1 → f' 4 = f 4 → f' 5 = f 5 → f' 6 = f 6 → f' 7 = f 7 → f' 8 = .int .i64 7 → Fr N0 W W' → K (frA 115 f') W') :
    Code.wp Tryz.prog (lvFst (llB 8)) (Exit.then K Q) (frA 115 f) W := by
  have hr := sReady_any W R p s2 3 h.1 h.2.1 (by decide) bName (by decide) 9 1
  rw [ready2] at hr
  have HR := Lib.hid hr; have HK := Lib.hid hK; have H1 := Lib.hid h1
  clear hr hK h
  simp only [bName] at HR
  show Code.wp _ _ _ { tmps := #[f 0, f 1, f 2, f 3, f 4, f 5, f 6, f 7, f 8, f 9, f 10, f 11, f 12, f 13, f 14, f 15, f 16, f 17, f 18, f 19, f 20, f 21, f 22, f 23, f 24, f 25, f 26, f 27, f 28, f 29, f 30, f 31, f 32, f 33, f 34, f 35, f 36, f 37, f 38, f 39, f 40, f 41, f 42, f 43, f 44, f 45, f 46, f 47, f 48, f 49, f 50, f 51, f 52, f 53, f 54, f 55, f 56, f 57, f 58, f 59, f 60, f 61, f 62, f 63, f 64, f 65, f 66, f 67, f 68, f 69, f 70, f 71, f 72, f 73, f 74, f 75, f 76, f 77, f 78, f 79, f 80, f 81, f 82, f 83, f 84, f 85, f 86, f 87, f 88, f 89, f 90, f 91, f 92, f 93, f 94, f 95, f 96, f 97, f 98, f 99, f 100, f 101, f 102, f 103, f 104, f 105, f 106, f 107, f 108, f 109, f 110, f 111, f 112, f 113, f 114], defers := [] } _
  rw [h1]
  clear h1
  conv => arg 2; whnf
  go_wp2_with (go_at_call 49; refine HR.out.mono ?_; rintro e w1 ⟨rfl, hf1⟩)
  refine cut_use (n := 115) (K := K) _ rfl ?_
  exact HK.out _ _ H1.out.symm rfl rfl rfl rfl rfl hf1
end Go.Proofs.YtefepfiijoafbaaGreat
