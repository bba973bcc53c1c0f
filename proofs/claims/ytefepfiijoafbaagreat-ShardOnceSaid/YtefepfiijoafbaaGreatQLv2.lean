/- lives, its regions: the commands and the questions (printed by a program). -/
import Derived.Test.YtefepfiijoafbaaGreatQLv1
namespace Go.Proofs.YtefepfiijoafbaaGreat
open Go.RowKit Go.Shelf Go.Maps
attribute [local go_sem] Oper.semAt_some
attribute [local irreducible] wpQuiet
set_option linter.unusedVariables false
set_option linter.unusedSimpArgs false

set_option maxRecDepth 100000 in
set_option maxHeartbeats 4000000 in
theorem ll7 {K : Act → World → Prop} {Q : Exit → Act → World → Prop} (w W : World) (R : Nat → Prop) (p : Nat) (f : Nat → Value) (h : Live w W R p s1 2) (C S : Nat) (hS : W.heap[S]? = some (.cells xW.enc.toArray 61 (0, 0))) (hC : W.heap[C]? = some (.cells (OpSC S) 38 (0, 0))) (h6 : f 6 = .pointer (some ⟨C, 0, none⟩)) (h1 : f 1 = .pointer (some ⟨p, 0, none⟩))
    (hK : ∀ f' W' R', f' 1 = f 1 → f' 4 = f 4 → f' 5 = f 5 → f' 6 = f 6 → f' 7 = .int .i64 0 → Live w W' R' p s2 3 → (∀ k, R' k → R k ∨ W.heap.size ≤ k) → Fr R W W' → K (frA 115 f') W') :
    Code.wp Tryz.prog (lvFst (llB 7)) (Exit.then K Q) (frA 115 f) W := by
  have hr := live_S h hS
  have HR := Lib.hid hr; have HK := Lib.hid hK; have H1 := Lib.hid h1
  obtain ⟨mc, nc, lc⟩ := box_cells hC
  have H6 := Lib.hid h6
  clear hS hC
  clear hr hK h
  show Code.wp _ _ _ { tmps := #[f 0, f 1, f 2, f 3, f 4, f 5, f 6, f 7, f 8, f 9, f 10, f 11, f 12, f 13, f 14, f 15, f 16, f 17, f 18, f 19, f 20, f 21, f 22, f 23, f 24, f 25, f 26, f 27, f 28, f 29, f 30, f 31, f 32, f 33, f 34, f 35, f 36, f 37, f 38, f 39, f 40, f 41, f 42, f 43, f 44, f 45, f 46, f 47, f 48, f 49, f 50, f 51, f 52, f 53, f 54, f 55, f 56, f 57, f 58, f 59, f 60, f 61, f 62, f 63, f 64, f 65, f 66, f 67, f 68, f 69, f 70, f 71, f 72, f 73, f 74, f 75, f 76, f 77, f 78, f 79, f 80, f 81, f 82, f 83, f 84, f 85, f 86, f 87, f 88, f 89, f 90, f 91, f 92, f 93, f 94, f 95, f 96, f 97, f 98, f 99, f 100, f 101, f 102, f 103, f 104, f 105, f 106, f 107, f 108, f 109, f 110, f 111, f 112, f 113, f 114], defers := [] } _
  rw [h1, h6]
  clear h1 h6
  conv => arg 2; whnf
  go_wp2_with (go_at_call 13; refine HR.out.mono ?_; rintro e w1 ⟨rfl, ⟨R1, hL1, hR1⟩, hf1⟩)
  refine cut_use (n := 115) (K := K) _ rfl ?_
  exact HK.out _ _ R1 H1.out.symm rfl rfl H6.out.symm rfl hL1 hR1 hf1

set_option maxRecDepth 100000 in
set_option maxHeartbeats 4000000 in
theorem ll9 {K : Act → World → Prop} {Q : Exit → Act → World → Prop} (w W : World) (R : Nat → Prop) (p : Nat) (f : Nat → Value) (h : Live w W R p s2 3) (h1 : f 1 = .pointer (some ⟨p, 0, none⟩))
    (hK : ∀ f' W' R', f' 1 = f 1 → f' 4 = f 4 → f' 5 = f 5 → f' 6 = f 6 → f' 7 = f 7 → f' 8 = f 8 → f' 9 = .int .i64 0 → Live w W' R' p s3 4 → (∀ k, R' k → R k ∨ W.heap.size ≤ k) → Fr R W W' → K (frA 115 f') W') :
    Code.wp Tryz.prog (lvFst (llB 9)) (Exit.then K Q) (frA 115 f) W := by
  have hr := live_F h
  have HR := Lib.hid hr; have HK := Lib.hid hK; have H1 := Lib.hid h1
  clear hr hK h
  show Code.wp _ _ _ { tmps := #[f 0, f 1, f 2, f 3, f 4, f 5, f 6, f 7, f 8, f 9, f 10, f 11, f 12, f 13, f 14, f 15, f 16, f 17, f 18, f 19, f 20, f 21, f 22, f 23, f 24, f 25, f 26, f 27, f 28, f 29, f 30, f 31, f 32, f 33, f 34, f 35, f 36, f 37, f 38, f 39, f 40, f 41, f 42, f 43, f 44, f 45, f 46, f 47, f 48, f 49, f 50, f 51, f 52, f 53, f 54, f 55, f 56, f 57, f 58, f 59, f 60, f 61, f 62, f 63, f 64, f 65, f 66, f 67, f 68, f 69, f 70, f 71, f 72, f 73, f 74, f 75, f 76, f 77, f 78, f 79, f 80, f 81, f 82, f 83, f 84, f 85, f 86, f 87, f 88, f 89, f 90, f 91, f 92, f 93, f 94, f 95, f 96, f 97, f 98, f 99, f 100, f 101, f 102, f 103, f 104, f 105, f 106, f 107, f 108, f 109, f 110, f 111, f 112, f 113, f 114], defers := [] } _
  rw [h1]
  clear h1
  conv => arg 2; whnf
  go_wp2_with (go_at_call 13; refine HR.out.mono ?_; rintro e w1 ⟨rfl, ⟨R1, hL1, hR1⟩, hf1⟩)
  refine cut_use (n := 115) (K := K) _ rfl ?_
  exact HK.out _ _ R1 H1.out.symm rfl rfl rfl rfl rfl rfl hL1 hR1 hf1

set_option maxRecDepth 100000 in
set_option maxHeartbeats 4000000 in
theorem ll13 {K : Act → World → Prop} {Q : Exit → Act → World → Prop} (w W : World) (R : Nat → Prop) (p : Nat) (f : Nat → Value) (h : Live w W R p s3 4) (C S : Nat) (hS : W.heap[S]? = some (.cells xW.enc.toArray 61 (0, 0))) (hC : W.heap[C]? = some (.cells (OpSC S) 38 (0, 0))) (h6 : f 6 = .pointer (some ⟨C, 0, none⟩)) (h1 : f 1 = .pointer (some ⟨p, 0, none⟩))
    (hK : ∀ f' W' R', f' 1 = f 1 → f' 4 = f 4 → f' 5 = f 5 → f' 6 = f 6 → f' 7 = f 7 → f' 8 = f 8 → f' 9 = f 9 → f' 10 = f 10 → f' 11 = f 11 → f' 12 = f 12 → f' 13 = f 13 → f' 14 = f 14 → f' 15 = .int .i64 210 → Live w W' R' p s3 5 → (∀ k, R' k → R k ∨ W.heap.size ≤ k) → Fr R W W' → K (frA 115 f') W') :
    Code.wp Tryz.prog (lvFst (llB 13)) (Exit.then K Q) (frA 115 f) W := by
  have hr := live_S2 h hS
  have HR := Lib.hid hr; have HK := Lib.hid hK; have H1 := Lib.hid h1
  obtain ⟨mc, nc, lc⟩ := box_cells hC
  have H6 := Lib.hid h6
  clear hS hC
  clear hr hK h
  show Code.wp _ _ _ { tmps := #[f 0, f 1, f 2, f 3, f 4, f 5, f 6, f 7, f 8, f 9, f 10, f 11, f 12, f 13, f 14, f 15, f 16, f 17, f 18, f 19, f 20, f 21, f 22, f 23, f 24, f 25, f 26, f 27, f 28, f 29, f 30, f 31, f 32, f 33, f 34, f 35, f 36, f 37, f 38, f 39, f 40, f 41, f 42, f 43, f 44, f 45, f 46, f 47, f 48, f 49, f 50, f 51, f 52, f 53, f 54, f 55, f 56, f 57, f 58, f 59, f 60, f 61, f 62, f 63, f 64, f 65, f 66, f 67, f 68, f 69, f 70, f 71, f 72, f 73, f 74, f 75, f 76, f 77, f 78, f 79, f 80, f 81, f 82, f 83, f 84, f 85, f 86, f 87, f 88, f 89, f 90, f 91, f 92, f 93, f 94, f 95, f 96, f 97, f 98, f 99, f 100, f 101, f 102, f 103, f 104, f 105, f 106, f 107, f 108, f 109, f 110, f 111, f 112, f 113, f 114], defers := [] } _
  rw [h1, h6]
  clear h1 h6
  conv => arg 2; whnf
  go_wp2_with (go_at_call 13; refine HR.out.mono ?_; rintro e w1 ⟨rfl, ⟨R1, hL1, hR1⟩, hf1⟩)
  refine cut_use (n := 115) (K := K) _ rfl ?_
  exact HK.out _ _ R1 H1.out.symm rfl rfl H6.out.symm rfl rfl rfl rfl rfl rfl rfl rfl rfl hL1 hR1 hf1

set_option maxRecDepth 100000 in
set_option maxHeartbeats 4000000 in
theorem ll14 {K : Act → World → Prop} {Q : Exit → Act → World → Prop} (w W : World) (R : Nat → Prop) (p : Nat) (f : Nat → Value) (h : Live w W R p s3 5) (h1 : f 1 = .pointer (some ⟨p, 0, none⟩))
    (hK : ∀ f' W' R', f' 1 = f 1 → f' 4 = f 4 → f' 5 = f 5 → f' 6 = f 6 → f' 7 = f 7 → f' 8 = f 8 → f' 9 = f 9 → f' 10 = f 10 → f' 11 = f 11 → f' 12 = f 12 → f' 13 = f 13 → f' 14 = f 14 → f' 15 = f 15 → f' 16 = .int .i64 211 → Live w W' R' p s3 6 → (∀ k, R' k → R k ∨ W.heap.size ≤ k) → Fr R W W' → K (frA 115 f') W') :
    Code.wp Tryz.prog (lvFst (llB 14)) (Exit.then K Q) (frA 115 f) W := by
  have hr := live_F2 h
  have HR := Lib.hid hr; have HK := Lib.hid hK; have H1 := Lib.hid h1
  clear hr hK h
  show Code.wp _ _ _ { tmps := #[f 0, f 1, f 2, f 3, f 4, f 5, f 6, f 7, f 8, f 9, f 10, f 11, f 12, f 13, f 14, f 15, f 16, f 17, f 18, f 19, f 20, f 21, f 22, f 23, f 24, f 25, f 26, f 27, f 28, f 29, f 30, f 31, f 32, f 33, f 34, f 35, f 36, f 37, f 38, f 39, f 40, f 41, f 42, f 43, f 44, f 45, f 46, f 47, f 48, f 49, f 50, f 51, f 52, f 53, f 54, f 55, f 56, f 57, f 58, f 59, f 60, f 61, f 62, f 63, f 64, f 65, f 66, f 67, f 68, f 69, f 70, f 71, f 72, f 73, f 74, f 75, f 76, f 77, f 78, f 79, f 80, f 81, f 82, f 83, f 84, f 85, f 86, f 87, f 88, f 89, f 90, f 91, f 92, f 93, f 94, f 95, f 96, f 97, f 98, f 99, f 100, f 101, f 102, f 103, f 104, f 105, f 106, f 107, f 108, f 109, f 110, f 111, f 112, f 113, f 114], defers := [] } _
  rw [h1]
  clear h1
  conv => arg 2; whnf
  go_wp2_with (go_at_call 13; refine HR.out.mono ?_; rintro e w1 ⟨rfl, ⟨R1, hL1, hR1⟩, hf1⟩)
  refine cut_use (n := 115) (K := K) _ rfl ?_
  exact HK.out _ _ R1 H1.out.symm rfl rfl rfl rfl rfl rfl rfl rfl rfl rfl rfl rfl rfl hL1 hR1 hf1

set_option maxRecDepth 100000 in
set_option maxHeartbeats 4000000 in
theorem ll10 {K : Act → World → Prop} {Q : Exit → Act → World → Prop} (w W : World) (R : Nat → Prop) (p : Nat) (f : Nat → Value) (h : Live w W R p s3 4) (h1 : f 1 = .pointer (some ⟨p, 0, none⟩))
    (hK : ∀ f' W', f' 1 = f 1 → f' 4 = f 4 → f' 5 = f 5 → f' 6 = f 6 → f' 7 = f 7 → f' 8 = f 8 → f' 9 = f 9 → f' 10 = .int .i64 0 → Fr N0 W W' → K (frA 115 f') W') :
    Code.wp Tryz.prog (lvFst (llB 10)) (Exit.then K Q) (frA 115 f) W := by
  have hr := sReady_any W R p s3 4 h.1 h.2.1 (by decide) bName (by decide) 9 1
  rw [ready3] at hr
  have HR := Lib.hid hr; have HK := Lib.hid hK; have H1 := Lib.hid h1
  clear hr hK h
  simp only [bName] at HR
  show Code.wp _ _ _ { tmps := #[f 0, f 1, f 2, f 3, f 4, f 5, f 6, f 7, f 8, f 9, f 10, f 11, f 12, f 13, f 14, f 15, f 16, f 17, f 18, f 19, f 20, f 21, f 22, f 23, f 24, f 25, f 26, f 27, f 28, f 29, f 30, f 31, f 32, f 33, f 34, f 35, f 36, f 37, f 38, f 39, f 40, f 41, f 42, f 43, f 44, f 45, f 46, f 47, f 48, f 49, f 50, f 51, f 52, f 53, f 54, f 55, f 56, f 57, f 58, f 59, f 60, f 61, f 62, f 63, f 64, f 65, f 66, f 67, f 68, f 69, f 70, f 71, f 72, f 73, f 74, f 75, f 76, f 77, f 78, f 79, f 80, f 81, f 82, f 83, f 84, f 85, f 86, f 87, f 88, f 89, f 90, f 91, f 92, f 93, f 94, f 95, f 96, f 97, f 98, f 99, f 100, f 101, f 102, f 103, f 104, f 105, f 106, f 107, f 108, f 109, f 110, f 111, f 112, f 113, f 114], defers := [] } _
  rw [h1]
  clear h1
  conv => arg 2; whnf
  go_wp2_with (go_at_call 49; refine HR.out.mono ?_; rintro e w1 ⟨rfl, hf1⟩)
  refine cut_use (n := 115) (K := K) _ rfl ?_
  exact HK.out _ _ H1.out.symm rfl rfl rfl rfl rfl rfl rfl hf1

set_option maxRecDepth 100000 in
set_option maxHeartbeats 4000000 in
theorem ll11 {K : Act → World → Prop} {Q : Exit → Act → World → Prop} (w W : World) (R : Nat → Prop) (p : Nat) (f : Nat → Value) (h : Live w W R p s3 4) (h1 : f 1 = .pointer (some ⟨p, 0, none⟩))
    (hK : ∀ f' W' g o c, f' 1 = f 1 → f' 4 = f 4 → f' 5 = f 5 → f' 6 = f 6 → f' 7 = f 7 → f' 8 = f 8 → f' 9 = f 9 → f' 10 = f 10 → f' 11 = .slice (some ⟨g, o, none⟩) 1 c → f' 12 = .int .i64 0 → (∀ i, i < 5 → W'.cell? ⟨g, o + i, none⟩ = (Val.enc ⟨3, false, 0, bA, 0⟩)[i]?) → 1 ≤ c → W.heap.size ≤ g → Fr N0 W W' → K (frA 115 f') W') :
    Code.wp Tryz.prog (lvFst (llB 11)) (Exit.then K Q) (frA 115 f) W := by
  have hr := sValues1_any W R p s3 4 h.1 h.2.1 (by decide) bName (by decide) lEnd s3_name 7 xW rfl (by decide) rfl rfl 7 1 (by decide) (by decide) ready3a
  have HR := Lib.hid hr; have HK := Lib.hid hK; have H1 := Lib.hid h1
  clear hr hK h
  rw [show xW.uid = 1 from rfl] at HR
  simp only [bName] at HR
  show Code.wp _ _ _ { tmps := #[f 0, f 1, f 2, f 3, f 4, f 5, f 6, f 7, f 8, f 9, f 10, f 11, f 12, f 13, f 14, f 15, f 16, f 17, f 18, f 19, f 20, f 21, f 22, f 23, f 24, f 25, f 26, f 27, f 28, f 29, f 30, f 31, f 32, f 33, f 34, f 35, f 36, f 37, f 38, f 39, f 40, f 41, f 42, f 43, f 44, f 45, f 46, f 47, f 48, f 49, f 50, f 51, f 52, f 53, f 54, f 55, f 56, f 57, f 58, f 59, f 60, f 61, f 62, f 63, f 64, f 65, f 66, f 67, f 68, f 69, f 70, f 71, f 72, f 73, f 74, f 75, f 76, f 77, f 78, f 79, f 80, f 81, f 82, f 83, f 84, f 85, f 86, f 87, f 88, f 89, f 90, f 91, f 92, f 93, f 94, f 95, f 96, f 97, f 98, f 99, f 100, f 101, f 102, f 103, f 104, f 105, f 106, f 107, f 108, f 109, f 110, f 111, f 112, f 113, f 114], defers := [] } _
  rw [h1]
  clear h1
  conv => arg 2; whnf
  go_wp2_with (go_at_call 50; refine HR.out.mono ?_; rintro e w1 ⟨v', g, rfl, ⟨a, o, c, rfl, hc1, -, ha, -, hcell⟩, hg, hf1⟩; obtain rfl := ha (by simp))
  refine cut_use (n := 115) (K := K) _ rfl ?_
  exact HK.out _ _ g o c H1.out.symm rfl rfl rfl rfl rfl rfl rfl rfl rfl (fun i hi => by have h := hcell 0 (by simp) i hi; rw [Nat.zero_mul, Nat.add_zero] at h; exact h) (by simpa using hc1) hg hf1

set_option maxRecDepth 100000 in
set_option maxHeartbeats 4000000 in
theorem ll12 {K : Act → World → Prop} {Q : Exit → Act → World → Prop} (w W : World) (R : Nat → Prop) (p : Nat) (f : Nat → Value) (h : Live w W R p s3 4) (h1 : f 1 = .pointer (some ⟨p, 0, none⟩))
    (hK : ∀ f' W', f' 1 = f 1 → f' 4 = f 4 → f' 5 = f 5 → f' 6 = f 6 → f' 7 = f 7 → f' 8 = f 8 → f' 9 = f 9 → f' 10 = f 10 → f' 11 = f 11 → f' 12 = f 12 → f' 13 = .slice none 0 0 → f' 14 = .int .i64 0 → Fr N0 W W' → K (frA 115 f') W') :
    Code.wp Tryz.prog (lvFst (llB 12)) (Exit.then K Q) (frA 115 f) W := by
  have hr := sValues0_any W R p s3 4 h.1 h.2.1 (by decide) bName (by decide) lEnd s3_name 7 xW rfl (by decide) rfl rfl 6 0 (by decide) (by decide) ready3b
  have HR := Lib.hid hr; have HK := Lib.hid hK; have H1 := Lib.hid h1
  clear hr hK h
  rw [show xW.uid = 1 from rfl] at HR
  simp only [bName] at HR
  show Code.wp _ _ _ { tmps := #[f 0, f 1, f 2, f 3, f 4, f 5, f 6, f 7, f 8, f 9, f 10, f 11, f 12, f 13, f 14, f 15, f 16, f 17, f 18, f 19, f 20, f 21, f 22, f 23, f 24, f 25, f 26, f 27, f 28, f 29, f 30, f 31, f 32, f 33, f 34, f 35, f 36, f 37, f 38, f 39, f 40, f 41, f 42, f 43, f 44, f 45, f 46, f 47, f 48, f 49, f 50, f 51, f 52, f 53, f 54, f 55, f 56, f 57, f 58, f 59, f 60, f 61, f 62, f 63, f 64, f 65, f 66, f 67, f 68, f 69, f 70, f 71, f 72, f 73, f 74, f 75, f 76, f 77, f 78, f 79, f 80, f 81, f 82, f 83, f 84, f 85, f 86, f 87, f 88, f 89, f 90, f 91, f 92, f 93, f 94, f 95, f 96, f 97, f 98, f 99, f 100, f 101, f 102, f 103, f 104, f 105, f 106, f 107, f 108, f 109, f 110, f 111, f 112, f 113, f 114], defers := [] } _
  rw [h1]
  clear h1
  conv => arg 2; whnf
  go_wp2_with (go_at_call 50; refine HR.out.mono ?_; rintro e w1 ⟨rfl, hf1⟩)
  refine cut_use (n := 115) (K := K) _ rfl ?_
  exact HK.out _ _ H1.out.symm rfl rfl rfl rfl rfl rfl rfl rfl rfl rfl rfl hf1
end Go.Proofs.YtefepfiijoafbaaGreat
