/- IndexParts, its regions: the two lists are made. IndexParts: the commits are added to both lists. IndexParts: the loop over the commits. -/
import Derived.Deep.DrawnRows
import Derived.Deep.RegionHeld3
import Derived.Test.YtefepfiijoafbaaGreatQPtF
import Derived.Test.YtefepfiijoafbaaGreatQLy4
import Derived.Test.YtefepfiijoafbaaGreatQArgC
import Derived.Test.YtefepfiijoafbaaGreatQLyN
namespace Go.Proofs.YtefepfiijoafbaaGreat
open Go.RowKit Go.Shelf Go.Maps
attribute [local go_sem] Oper.semAt_some
attribute [local go_sem ↓] Go.wp_at_zero Go.wp_at_succ
attribute [local irreducible] wpQuiet
set_option linter.unusedVariables false
set_option linter.unusedSimpArgs false

def Kp (l : List Nat) (f f' : Nat → Value) : Prop := ∀ i ∈ l, f' i = f i
theorem kp_mk {l : List Nat} {f f' : Nat → Value} (h : l.map f' = l.map f) : Kp l f f' := List.map_inj_left.1 h
theorem Kp.at {l : List Nat} {f f' : Nat → Value} (h : Kp l f f') (i : Nat) (hi : i ∈ l) : f' i = f i := h i hi
theorem Kp.trans {l m : List Nat} {f f' f2 : Nat → Value} (h : Kp l f f') (g : Kp m f' f2) (hm : ∀ i ∈ l, i ∈ m) : Kp l f f2 := fun i hi => (g i (hm i hi)).trans (h i hi)
noncomputable def ptB (n : Nat) : Code := lvSuf n ((Tryz.f6.body).getD .skip)
def cFr2 : Sch := ⟨bFri, 4, true, false, false, false, true, false⟩
theorem may_fr2 : schMay cFr2 = 0 := by simp [schMay, cFr2, ok_fri, schBad]
/-- The small boxes: the result's, the time's. -/
structure PtB (w : World) (BR B5 : Nat) (t : Int) (W : World) : Prop where
  res : W.heap[BR]? = some (.cells #[.bool false] 4 (0, 0))
  b5 : W.heap[B5]? = some (.cells #[.int .u64 t] 33 (0, 0))
  new : w.heap.size ≤ BR ∧ w.heap.size ≤ B5 ∧ BR ≠ B5
  fr : Fr N0 w W
theorem PtB.fr' {w W W' : World} {BR B5 : Nat} {t : Int} (h : PtB w BR B5 t W) (hf : Fr N0 W W') : PtB w BR B5 t W' :=
  ⟨(hf.at id (lt_of_block h.res)).trans h.res, (hf.at id (lt_of_block h.b5)).trans h.b5, h.new, h.fr.then0 hf⟩
theorem PtB.frT {w W W' : World} {BR B5 : Nat} {t : Int} {T : Nat → Prop} (h : PtB w BR B5 t W) (hf : Fr T W W') (h1 : ¬ T BR) (h2 : ¬ T B5) (h3 : ∀ k, T k → w.heap.size ≤ k) : PtB w BR B5 t W' :=
  ⟨(hf.at h1 (lt_of_block h.res)).trans h.res, (hf.at h2 (lt_of_block h.b5)).trans h.b5, h.new, h.fr.trans hf fun k hk => .inr (h3 k hk)⟩

set_option maxRecDepth 100000 in
set_option maxHeartbeats 4000000 in
theorem pt0 {K : Act → World → Prop} {Q : Exit → Act → World → Prop} (w : World) (f : Nat → Value) (t : Int) (h1 : f 1 = .int .u64 t)
    (hK : ∀ f' W' BR B5, Kp [0, 2, 3] f f' → f' 5 = vP B5 → f' 8 = vP BR → PtB w BR B5 t W' → K (frA 226 f') W') :
    Code.wp Tryz.prog (lvFst (ptB 0)) (Exit.then K Q) (frA 226 f) w := by
  have HK := Lib.hid hK
  clear hK
  show Code.wp _ _ _ { tmps := #[f 0, f 1, f 2, f 3, f 4, f 5, f 6, f 7, f 8, f 9, f 10, f 11, f 12, f 13, f 14, f 15, f 16, f 17, f 18, f 19, f 20, f 21, f 22, f 23, f 24, f 25, f 26, f 27, f 28, f 29, f 30, f 31, f 32, f 33, f 34, f 35, f 36, f 37, f 38, f 39, f 40, f 41, f 42, f 43, f 44, f 45, f 46, f 47, f 48, f 49, f 50, f 51, f 52, f 53, f 54, f 55, f 56, f 57, f 58, f 59, f 60, f 61, f 62, f 63, f 64, f 65, f 66, f 67, f 68, f 69, f 70, f 71, f 72, f 73, f 74, f 75, f 76, f 77, f 78, f 79, f 80, f 81, f 82, f 83, f 84, f 85, f 86, f 87, f 88, f 89, f 90, f 91, f 92, f 93, f 94, f 95, f 96, f 97, f 98, f 99, f 100, f 101, f 102, f 103, f 104, f 105, f 106, f 107, f 108, f 109, f 110, f 111, f 112, f 113, f 114, f 115, f 116, f 117, f 118, f 119, f 120, f 121, f 122, f 123, f 124, f 125, f 126, f 127, f 128, f 129, f 130, f 131, f 132, f 133, f 134, f 135, f 136, f 137, f 138, f 139, f 140, f 141, f 142, f 143, f 144, f 145, f 146, f 147, f 148, f 149, f 150, f 151, f 152, f 153, f 154, f 155, f 156, f 157, f 158, f 159, f 160, f 161, f 162, f 163, f 164, f 165, f 166, f 167, f 168, f 169, f 170, f 171, f 172, f 173, f 174, f 175, f 176, f 177, f 178, f 179, f 180, f 181, f 182, f 183, f 184, f 185, f 186, f 187, f 188, f 189, f 190, f 191, f 192, f 193, f 194, f 195, f 196, f 197, f 198, f 199, f 200, f 201, f 202, f 203, f 204, f 205, f 206, f 207, f 208, f 209, f 210, f 211, f 212, f 213, f 214, f 215, f 216, f 217, f 218, f 219, f 220, f 221, f 222, f 223, f 224, f 225], defers := [] } _
  rw [h1]
  clear h1
  conv => arg 2; whnf
  go_wp2_with fail
  refine cut_use (n := 226) (K := K) _ rfl ?_
  refine HK.out _ _ (w.heap.size + 1) w.heap.size (kp_mk rfl) rfl rfl ⟨heap2_newX _ _ _, (Below.heap_alloc _ _ _ (by simp)).trans (World.alloc_heap_new w _), ⟨by omega, Nat.le_refl _, by omega⟩, ((Fr.refl _ _).alloc _).alloc _⟩
set_option maxRecDepth 100000 in
set_option maxHeartbeats 4000000 in
theorem pt1 {K : Act → World → Prop} {Q : Exit → Act → World → Prop} (W : World) (f : Nat → Value)
    (hK : ∀ f' W', Kp [0, 2, 3, 5, 8] f f' → Fr N0 W W' → K (frA 226 f') W') :
    Code.wp Tryz.prog (lvFst (ptB 1)) (Exit.then K Q) (frA 226 f) W := by
  have HK := Lib.hid hK; have HL := Lib.hid (lxLives_any W)
  clear hK
  show Code.wp _ _ _ { tmps := #[f 0, f 1, f 2, f 3, f 4, f 5, f 6, f 7, f 8, f 9, f 10, f 11, f 12, f 13, f 14, f 15, f 16, f 17, f 18, f 19, f 20, f 21, f 22, f 23, f 24, f 25, f 26, f 27, f 28, f 29, f 30, f 31, f 32, f 33, f 34, f 35, f 36, f 37, f 38, f 39, f 40, f 41, f 42, f 43, f 44, f 45, f 46, f 47, f 48, f 49, f 50, f 51, f 52, f 53, f 54, f 55, f 56, f 57, f 58, f 59, f 60, f 61, f 62, f 63, f 64, f 65, f 66, f 67, f 68, f 69, f 70, f 71, f 72, f 73, f 74, f 75, f 76, f 77, f 78, f 79, f 80, f 81, f 82, f 83, f 84, f 85, f 86, f 87, f 88, f 89, f 90, f 91, f 92, f 93, f 94, f 95, f 96, f 97, f 98, f 99, f 100, f 101, f 102, f 103, f 104, f 105, f 106, f 107, f 108, f 109, f 110, f 111, f 112, f 113, f 114, f 115, f 116, f 117, f 118, f 119, f 120, f 121, f 122, f 123, f 124, f 125, f 126, f 127, f 128, f 129, f 130, f 131, f 132, f 133, f 134, f 135, f 136, f 137, f 138, f 139, f 140, f 141, f 142, f 143, f 144, f 145, f 146, f 147, f 148, f 149, f 150, f 151, f 152, f 153, f 154, f 155, f 156, f 157, f 158, f 159, f 160, f 161, f 162, f 163, f 164, f 165, f 166, f 167, f 168, f 169, f 170, f 171, f 172, f 173, f 174, f 175, f 176, f 177, f 178, f 179, f 180, f 181, f 182, f 183, f 184, f 185, f 186, f 187, f 188, f 189, f 190, f 191, f 192, f 193, f 194, f 195, f 196, f 197, f 198, f 199, f 200, f 201, f 202, f 203, f 204, f 205, f 206, f 207, f 208, f 209, f 210, f 211, f 212, f 213, f 214, f 215, f 216, f 217, f 218, f 219, f 220, f 221, f 222, f 223, f 224, f 225], defers := [] } _
  conv => arg 2; whnf
  go_wp2_with fail
  refine HL.out.mono ?_
  rintro e w1 ⟨rfl, hf1⟩
  have HF := Lib.hid hf1
  clear hf1
  go_wp2_with fail
  refine cut_use (n := 226) (K := K) _ rfl ?_
  exact HK.out _ _ (kp_mk rfl) HF.out
set_option maxRecDepth 100000 in
set_option maxHeartbeats 4000000 in
theorem pt2 {K : Act → World → Prop} {Q : Exit → Act → World → Prop} (w W : World) (f : Nat → Value) (b BR B5 : Nat) (t : Int) (v : Value) (cs : List CmV) (hc : Cms W b v cs) (hb : PtB w BR B5 t W) (h0 : f 0 = v) (h8 : f 8 = vP BR)
    (hK : cs.length ≤ 20 → ∀ f' W', Kp [0, 2, 3, 5, 8] f f' → Fr N0 W W' → K (frA 226 f') W')
    (hQ : ∀ f' W', f' 8 = vP BR → W'.heap[BR]? = some (.cells #[.bool true] 4 (0, 0)) → Fr N0 w W' → Q .ret (frA 226 f') W') :
    Code.wp Tryz.prog (lvFst (ptB 2)) (Exit.then K Q) (frA 226 f) W := by
  have HS := Lib.hid (lxSmall_any W b v cs hc)
  have HK := Lib.hid hK; have HQ := Lib.hid hQ; have HB := Lib.hid hb; have H0 := Lib.hid h0; have H8 := Lib.hid h8
  clear hK hQ hb hc
  show Code.wp _ _ _ { tmps := #[f 0, f 1, f 2, f 3, f 4, f 5, f 6, f 7, f 8, f 9, f 10, f 11, f 12, f 13, f 14, f 15, f 16, f 17, f 18, f 19, f 20, f 21, f 22, f 23, f 24, f 25, f 26, f 27, f 28, f 29, f 30, f 31, f 32, f 33, f 34, f 35, f 36, f 37, f 38, f 39, f 40, f 41, f 42, f 43, f 44, f 45, f 46, f 47, f 48, f 49, f 50, f 51, f 52, f 53, f 54, f 55, f 56, f 57, f 58, f 59, f 60, f 61, f 62, f 63, f 64, f 65, f 66, f 67, f 68, f 69, f 70, f 71, f 72, f 73, f 74, f 75, f 76, f 77, f 78, f 79, f 80, f 81, f 82, f 83, f 84, f 85, f 86, f 87, f 88, f 89, f 90, f 91, f 92, f 93, f 94, f 95, f 96, f 97, f 98, f 99, f 100, f 101, f 102, f 103, f 104, f 105, f 106, f 107, f 108, f 109, f 110, f 111, f 112, f 113, f 114, f 115, f 116, f 117, f 118, f 119, f 120, f 121, f 122, f 123, f 124, f 125, f 126, f 127, f 128, f 129, f 130, f 131, f 132, f 133, f 134, f 135, f 136, f 137, f 138, f 139, f 140, f 141, f 142, f 143, f 144, f 145, f 146, f 147, f 148, f 149, f 150, f 151, f 152, f 153, f 154, f 155, f 156, f 157, f 158, f 159, f 160, f 161, f 162, f 163, f 164, f 165, f 166, f 167, f 168, f 169, f 170, f 171, f 172, f 173, f 174, f 175, f 176, f 177, f 178, f 179, f 180, f 181, f 182, f 183, f 184, f 185, f 186, f 187, f 188, f 189, f 190, f 191, f 192, f 193, f 194, f 195, f 196, f 197, f 198, f 199, f 200, f 201, f 202, f 203, f 204, f 205, f 206, f 207, f 208, f 209, f 210, f 211, f 212, f 213, f 214, f 215, f 216, f 217, f 218, f 219, f 220, f 221, f 222, f 223, f 224, f 225], defers := [] } _
  rw [h0, h8]
  clear h0 h8
  conv => arg 2; whnf
  go_wp2_with fail
  refine HS.out.mono ?_
  rintro e w1 ⟨⟨r, rfl, hr⟩, hf1⟩
  have hb1 := HB.out.fr' hf1
  have cr := cell_of_one hb1.res
  have fr := free_of_one hb1.res
  cases r with
  | true =>
    have HR := Lib.hid (hr rfl); have HF := Lib.hid hf1
    clear hr hf1 hb1 cr fr
    go_wp2_with fail
    refine cut_use (n := 226) (K := K) _ rfl ?_
    exact HK.out HR.out _ _ (kp_mk (by simp only [List.map_cons, List.map_nil, H0.out, H8.out]; rfl)) HF.out
  | false =>
    have HF := Lib.hid hf1; have HB1 := Lib.hid hb1
    clear hr hf1 hb1
    go_wp2_with fail
    refine cut_useQ (n := 226) (Q := Q) (e := .ret) _ rfl ?_
    exact HQ.out _ _ rfl (one_setCell HB1.out.res) (HB1.out.fr.setCell (.inr HB1.out.new.1) _)
set_option maxRecDepth 100000 in
set_option maxHeartbeats 4000000 in
theorem pt3 {K : Act → World → Prop} {Q : Exit → Act → World → Prop} (w W : World) (f : Nat → Value) (hf : Fr N0 w W)
    (hK : ∀ f' W' p, Kp [0, 2, 3, 5, 8] f f' → f' 9 = vP p → f' 10 = .int .i64 0 → W.heap.size ≤ p → Lxl w W' (fun k => k = p) p { s := cAge } → Fr N0 W W' → K (frA 226 f') W') :
    Code.wp Tryz.prog (lvFst (ptB 3)) (Exit.then K Q) (frA 226 f) W := by
  have HK := Lib.hid hK; have HN := Lib.hid (lxl_new w W hf cAge may_age)
  clear hK hf
  simp only [Sch.enc, cAge, bAge] at HN
  show Code.wp _ _ _ { tmps := #[f 0, f 1, f 2, f 3, f 4, f 5, f 6, f 7, f 8, f 9, f 10, f 11, f 12, f 13, f 14, f 15, f 16, f 17, f 18, f 19, f 20, f 21, f 22, f 23, f 24, f 25, f 26, f 27, f 28, f 29, f 30, f 31, f 32, f 33, f 34, f 35, f 36, f 37, f 38, f 39, f 40, f 41, f 42, f 43, f 44, f 45, f 46, f 47, f 48, f 49, f 50, f 51, f 52, f 53, f 54, f 55, f 56, f 57, f 58, f 59, f 60, f 61, f 62, f 63, f 64, f 65, f 66, f 67, f 68, f 69, f 70, f 71, f 72, f 73, f 74, f 75, f 76, f 77, f 78, f 79, f 80, f 81, f 82, f 83, f 84, f 85, f 86, f 87, f 88, f 89, f 90, f 91, f 92, f 93, f 94, f 95, f 96, f 97, f 98, f 99, f 100, f 101, f 102, f 103, f 104, f 105, f 106, f 107, f 108, f 109, f 110, f 111, f 112, f 113, f 114, f 115, f 116, f 117, f 118, f 119, f 120, f 121, f 122, f 123, f 124, f 125, f 126, f 127, f 128, f 129, f 130, f 131, f 132, f 133, f 134, f 135, f 136, f 137, f 138, f 139, f 140, f 141, f 142, f 143, f 144, f 145, f 146, f 147, f 148, f 149, f 150, f 151, f 152, f 153, f 154, f 155, f 156, f 157, f 158, f 159, f 160, f 161, f 162, f 163, f 164, f 165, f 166, f 167, f 168, f 169, f 170, f 171, f 172, f 173, f 174, f 175, f 176, f 177, f 178, f 179, f 180, f 181, f 182, f 183, f 184, f 185, f 186, f 187, f 188, f 189, f 190, f 191, f 192, f 193, f 194, f 195, f 196, f 197, f 198, f 199, f 200, f 201, f 202, f 203, f 204, f 205, f 206, f 207, f 208, f 209, f 210, f 211, f 212, f 213, f 214, f 215, f 216, f 217, f 218, f 219, f 220, f 221, f 222, f 223, f 224, f 225], defers := [] } _
  conv => arg 2; whnf
  go_wp2_with fail
  refine HN.out.mono ?_
  rintro e w1 ⟨p, rfl, hp, hl, hf1⟩
  have HP := Lib.hid hp; have HL := Lib.hid hl; have HF := Lib.hid hf1
  clear hp hl hf1 HN
  go_wp2_with fail
  refine cut_use (n := 226) (K := K) _ rfl ?_
  exact HK.out _ w1 p (kp_mk rfl) rfl rfl HP.out HL.out HF.out
set_option maxRecDepth 100000 in
set_option maxHeartbeats 4000000 in
theorem pt4 {K : Act → World → Prop} {Q : Exit → Act → World → Prop} (w W : World) (f : Nat → Value) (hf : Fr N0 w W)
    (hK : ∀ f' W' p B, Kp [0, 2, 3, 5, 8, 9, 10] f f' → f' 11 = vP B → f' 12 = .int .i64 0 → W.heap.size ≤ p → W.heap.size ≤ B → B ≠ p → W'.heap[B]? = some (.cells #[vP p] 51 (0, 0)) → Lxl w W' (fun k => k = p) p { s := cFr2 } → Fr N0 W W' → K (frA 226 f') W') :
    Code.wp Tryz.prog (lvFst (ptB 4)) (Exit.then K Q) (frA 226 f) W := by
  have HK := Lib.hid hK; have HN := Lib.hid (lxl_new w W hf cFr2 may_fr2)
  clear hK hf
  simp only [Sch.enc, cFr2, bFri] at HN
  show Code.wp _ _ _ { tmps := #[f 0, f 1, f 2, f 3, f 4, f 5, f 6, f 7, f 8, f 9, f 10, f 11, f 12, f 13, f 14, f 15, f 16, f 17, f 18, f 19, f 20, f 21, f 22, f 23, f 24, f 25, f 26, f 27, f 28, f 29, f 30, f 31, f 32, f 33, f 34, f 35, f 36, f 37, f 38, f 39, f 40, f 41, f 42, f 43, f 44, f 45, f 46, f 47, f 48, f 49, f 50, f 51, f 52, f 53, f 54, f 55, f 56, f 57, f 58, f 59, f 60, f 61, f 62, f 63, f 64, f 65, f 66, f 67, f 68, f 69, f 70, f 71, f 72, f 73, f 74, f 75, f 76, f 77, f 78, f 79, f 80, f 81, f 82, f 83, f 84, f 85, f 86, f 87, f 88, f 89, f 90, f 91, f 92, f 93, f 94, f 95, f 96, f 97, f 98, f 99, f 100, f 101, f 102, f 103, f 104, f 105, f 106, f 107, f 108, f 109, f 110, f 111, f 112, f 113, f 114, f 115, f 116, f 117, f 118, f 119, f 120, f 121, f 122, f 123, f 124, f 125, f 126, f 127, f 128, f 129, f 130, f 131, f 132, f 133, f 134, f 135, f 136, f 137, f 138, f 139, f 140, f 141, f 142, f 143, f 144, f 145, f 146, f 147, f 148, f 149, f 150, f 151, f 152, f 153, f 154, f 155, f 156, f 157, f 158, f 159, f 160, f 161, f 162, f 163, f 164, f 165, f 166, f 167, f 168, f 169, f 170, f 171, f 172, f 173, f 174, f 175, f 176, f 177, f 178, f 179, f 180, f 181, f 182, f 183, f 184, f 185, f 186, f 187, f 188, f 189, f 190, f 191, f 192, f 193, f 194, f 195, f 196, f 197, f 198, f 199, f 200, f 201, f 202, f 203, f 204, f 205, f 206, f 207, f 208, f 209, f 210, f 211, f 212, f 213, f 214, f 215, f 216, f 217, f 218, f 219, f 220, f 221, f 222, f 223, f 224, f 225], defers := [] } _
  conv => arg 2; whnf
  go_wp2_with fail
  refine HN.out.mono ?_
  rintro e w1 ⟨p, rfl, hp, hl, hf1⟩
  have HP := Lib.hid hp; have HL := Lib.hid hl; have HF := Lib.hid hf1
  clear hp hl hf1 HN
  go_wp2_with fail
  refine cut_use (n := 226) (K := K) _ rfl ?_
  have hlt := (HL.out.2.1 p rfl).2
  exact HK.out _ _ p w1.heap.size (kp_mk rfl) rfl rfl HP.out HF.out.size (by omega) (World.alloc_heap_new _ _) (HL.out.fr ((Fr.refl _ _).alloc _)) (HF.out.alloc _)
set_option maxRecDepth 100000 in
set_option maxHeartbeats 4000000 in
theorem pt5 {K : Act → World → Prop} {Q : Exit → Act → World → Prop} (W : World) (f : Nat → Value) (h10 : f 10 = .int .i64 0) (h12 : f 12 = .int .i64 0)
    (hK : ∀ f', Kp [0, 2, 3, 5, 8, 9, 11] f f' → K (frA 226 f') W) :
    Code.wp Tryz.prog (lvFst (ptB 5)) (Exit.then K Q) (frA 226 f) W := by
  have HK := Lib.hid hK
  clear hK
  show Code.wp _ _ _ { tmps := #[f 0, f 1, f 2, f 3, f 4, f 5, f 6, f 7, f 8, f 9, f 10, f 11, f 12, f 13, f 14, f 15, f 16, f 17, f 18, f 19, f 20, f 21, f 22, f 23, f 24, f 25, f 26, f 27, f 28, f 29, f 30, f 31, f 32, f 33, f 34, f 35, f 36, f 37, f 38, f 39, f 40, f 41, f 42, f 43, f 44, f 45, f 46, f 47, f 48, f 49, f 50, f 51, f 52, f 53, f 54, f 55, f 56, f 57, f 58, f 59, f 60, f 61, f 62, f 63, f 64, f 65, f 66, f 67, f 68, f 69, f 70, f 71, f 72, f 73, f 74, f 75, f 76, f 77, f 78, f 79, f 80, f 81, f 82, f 83, f 84, f 85, f 86, f 87, f 88, f 89, f 90, f 91, f 92, f 93, f 94, f 95, f 96, f 97, f 98, f 99, f 100, f 101, f 102, f 103, f 104, f 105, f 106, f 107, f 108, f 109, f 110, f 111, f 112, f 113, f 114, f 115, f 116, f 117, f 118, f 119, f 120, f 121, f 122, f 123, f 124, f 125, f 126, f 127, f 128, f 129, f 130, f 131, f 132, f 133, f 134, f 135, f 136, f 137, f 138, f 139, f 140, f 141, f 142, f 143, f 144, f 145, f 146, f 147, f 148, f 149, f 150, f 151, f 152, f 153, f 154, f 155, f 156, f 157, f 158, f 159, f 160, f 161, f 162, f 163, f 164, f 165, f 166, f 167, f 168, f 169, f 170, f 171, f 172, f 173, f 174, f 175, f 176, f 177, f 178, f 179, f 180, f 181, f 182, f 183, f 184, f 185, f 186, f 187, f 188, f 189, f 190, f 191, f 192, f 193, f 194, f 195, f 196, f 197, f 198, f 199, f 200, f 201, f 202, f 203, f 204, f 205, f 206, f 207, f 208, f 209, f 210, f 211, f 212, f 213, f 214, f 215, f 216, f 217, f 218, f 219, f 220, f 221, f 222, f 223, f 224, f 225], defers := [] } _
  rw [h10, h12]
  clear h10 h12
  conv => arg 2; whnf
  go_wp2_with fail
  refine cut_use (n := 226) (K := K) _ rfl ?_
  exact HK.out _ (kp_mk rfl)
end Go.Proofs.YtefepfiijoafbaaGreat
namespace Go.Proofs.YtefepfiijoafbaaGreat
open Go.RowKit Go.Shelf Go.Maps
attribute [local go_sem] Oper.semAt_some
attribute [local go_sem ↓] Go.wp_at_zero Go.wp_at_succ
attribute [local irreducible] wpQuiet
set_option linter.unusedVariables false
set_option linter.unusedSimpArgs false

/-- What lies between the rounds: the two lists, apart, and the small boxes. -/
structure PtS (w : World) (BR B5 B11 p1 p2 : Nat) (R1 R2 : Nat → Prop) (l m : PL) (n : Nat) (t : Int) (W : World) : Prop where
  ll : Lxl w W R1 p1 l
  mm : Lxl w W R2 p2 m
  ap : ∀ k, R1 k → ¬ R2 k
  box : PtB w BR B5 t W
  b11 : W.heap[B11]? = some (.cells #[vP p2] 51 (0, 0))
  new11 : w.heap.size ≤ B11 ∧ B11 ≠ BR ∧ B11 ≠ B5
  out : ∀ k, (k = BR ∨ k = B5 ∨ k = B11) → ¬ R1 k ∧ ¬ R2 k
  bl : Built cAge l n
  bm : Built cFr2 m n
theorem cm_wf {W : World} {c : CmV} (h : CmGood W c) : ∃ b ys, Wrs W b (.slice c.a c.n c.c) ys ∧ (∀ y ∈ ys, y.ok) ∧ (Lit.int .u64 c.time).wf = true := by
  obtain ⟨h1, b, ys, h2, h3⟩ := h; exact ⟨b, ys, h2, h3, h1⟩
section
variable {w W : World} {BR B5 B11 p1 p2 : Nat} {R1 R2 : Nat → Prop} {l m : PL} {n : Nat} {t : Int}
theorem PtS.fr (h : PtS w BR B5 B11 p1 p2 R1 R2 l m n t W) {W' : World} (hf : Fr N0 W W') : PtS w BR B5 B11 p1 p2 R1 R2 l m n t W' :=
  ⟨h.ll.fr hf, h.mm.fr hf, h.ap, h.box.fr' hf, (hf.at id (lt_of_block h.b11)).trans h.b11, h.new11, h.out, h.bl, h.bm⟩
/-- Behind Add to the first list. -/
theorem PtS.add1 (h : PtS w BR B5 B11 p1 p2 R1 R2 l m n t W) {W' : World} {R' : Nat → Prop} {l' : PL} (hl : Lxl w W' R' p1 l') (hR : ∀ k, R' k → R1 k ∨ W.heap.size ≤ k) (hf : Fr R1 W W') (hb : Built cAge l' (n + 1)) :
    PtS w BR B5 B11 p1 p2 R' R2 l' m (n + 1) t W' where
  ll := hl
  mm := h.mm.frT hf (fun k h2 h1 => h.ap k h1 h2) fun k hk => (h.ll.2.1 k hk).1
  ap := fun k h1 h2 => (hR k h1).elim (fun h1 => h.ap k h1 h2) fun h1 => by have := (h.mm.2.1 k h2).2; omega
  box := h.box.frT hf (h.out _ (.inl rfl)).1 (h.out _ (.inr (.inl rfl))).1 fun k hk => (h.ll.2.1 k hk).1
  b11 := (hf.at (h.out _ (.inr (.inr rfl))).1 (lt_of_block h.b11)).trans h.b11
  new11 := h.new11
  out := fun k hk => ⟨fun h1 => (hR k h1).elim (h.out k hk).1 fun h1 => by
    have e1 := lt_of_block h.box.res; have e2 := lt_of_block h.box.b5; have e3 := lt_of_block h.b11
    rcases hk with rfl | rfl | rfl <;> omega, (h.out k hk).2⟩
  bl := hb
  bm := h.bm.mono (Nat.le_succ _)
theorem PtS.add2 (h : PtS w BR B5 B11 p1 p2 R1 R2 l m (n + 1) t W) {W' : World} {R' : Nat → Prop} {m' : PL} (hl : Lxl w W' R' p2 m') (hR : ∀ k, R' k → R2 k ∨ W.heap.size ≤ k) (hf : Fr R2 W W') (hb : Built cFr2 m' (n + 1)) :
    PtS w BR B5 B11 p1 p2 R1 R' l m' (n + 1) t W' where
  ll := h.ll.frT hf (fun k h1 h2 => h.ap k h1 h2) fun k hk => (h.mm.2.1 k hk).1
  mm := hl
  ap := fun k h1 h2 => (hR k h2).elim (fun h2 => h.ap k h1 h2) fun h2 => by have := (h.ll.2.1 k h1).2; omega
  box := h.box.frT hf (h.out _ (.inl rfl)).2 (h.out _ (.inr (.inl rfl))).2 fun k hk => (h.mm.2.1 k hk).1
  b11 := (hf.at (h.out _ (.inr (.inr rfl))).2 (lt_of_block h.b11)).trans h.b11
  new11 := h.new11
  out := fun k hk => ⟨(h.out k hk).1, fun h1 => (hR k h1).elim (h.out k hk).2 fun h1 => by
    have e1 := lt_of_block h.box.res; have e2 := lt_of_block h.box.b5; have e3 := lt_of_block h.b11
    rcases hk with rfl | rfl | rfl <;> omega⟩
  bl := h.bl
  bm := hb
/-- Add of one of the commits that were handed in. -/
theorem lx_addC {s : Sch} (h : Lxl w W R1 p1 l) (hb : Built s l n) (hn : n ≤ 1000) {c : CmV} (hc : CmGood w c) :
    Calls Tryz.prog 31 #[vP p1, .agg #[.int .u64 c.time, .slice c.a c.n c.c]] W fun e w' => ∃ l', Built s l' (n + 1) ∧ LxAdd w W R1 p1 l' e w' := by
  obtain ⟨b, ys, h1, h2, h3⟩ := cm_wf hc
  refine (lxl_add h hb.fine (by omega) c ys b (h1.fr0 h.2.2) (fun y hy => (h2 y hy).wf) fun h0 hr => ?_).mono fun e w' hh => ⟨_, hb.add ⟨c.time, ys⟩ h3 h2, hh⟩
  obtain ⟨a, off, cap, -, -, -, -, -, g⟩ := h1
  have hbw : b < w.heap.size := lt_of_cell (p := ⟨b, off + 0 * 8 + 0, none⟩) (g 0 h0 0 (by decide))
  have := (h.2.1 b hr).1
  omega
end
noncomputable def ptL : Code := lxLoop (lxIn (lxSnd (lvFst (ptB 6))))
noncomputable def ptC (n : Nat) : Code := lvSuf n (lxIn (lvFst (lxSnd ptL)))
theorem ptB6_eq : lvFst (ptB 6) = .seq (lvFst (lvFst (ptB 6))) (.block 0 (.loop ptL)) := by kernel_rfl
theorem ptL_eq : ptL = .seq (lvFst ptL) (.seq (.block 1 (.seq (lvFst (ptC 0)) (lxSnd (ptC 0)))) (lxSnd (lxSnd ptL))) := by kernel_rfl
def kpC : List Nat := [0, 2, 3, 5, 8, 9, 11]
set_option maxRecDepth 100000 in
set_option maxHeartbeats 4000000 in
theorem ptR9 {K : Act → World → Prop} {Q : Exit → Act → World → Prop} (W : World) (f : Nat → Value)
    (hK : ∀ f', Kp kpC f f' → f' 13 = .int .i64 (0 : Nat) → K (frA 226 f') W) :
    Code.wp Tryz.prog (lvFst (lvFst (ptB 6))) (Exit.then K Q) (frA 226 f) W := by
  have HK := Lib.hid hK
  clear hK
  show Code.wp _ _ _ { tmps := #[f 0, f 1, f 2, f 3, f 4, f 5, f 6, f 7, f 8, f 9, f 10, f 11, f 12, f 13, f 14, f 15, f 16, f 17, f 18, f 19, f 20, f 21, f 22, f 23, f 24, f 25, f 26, f 27, f 28, f 29, f 30, f 31, f 32, f 33, f 34, f 35, f 36, f 37, f 38, f 39, f 40, f 41, f 42, f 43, f 44, f 45, f 46, f 47, f 48, f 49, f 50, f 51, f 52, f 53, f 54, f 55, f 56, f 57, f 58, f 59, f 60, f 61, f 62, f 63, f 64, f 65, f 66, f 67, f 68, f 69, f 70, f 71, f 72, f 73, f 74, f 75, f 76, f 77, f 78, f 79, f 80, f 81, f 82, f 83, f 84, f 85, f 86, f 87, f 88, f 89, f 90, f 91, f 92, f 93, f 94, f 95, f 96, f 97, f 98, f 99, f 100, f 101, f 102, f 103, f 104, f 105, f 106, f 107, f 108, f 109, f 110, f 111, f 112, f 113, f 114, f 115, f 116, f 117, f 118, f 119, f 120, f 121, f 122, f 123, f 124, f 125, f 126, f 127, f 128, f 129, f 130, f 131, f 132, f 133, f 134, f 135, f 136, f 137, f 138, f 139, f 140, f 141, f 142, f 143, f 144, f 145, f 146, f 147, f 148, f 149, f 150, f 151, f 152, f 153, f 154, f 155, f 156, f 157, f 158, f 159, f 160, f 161, f 162, f 163, f 164, f 165, f 166, f 167, f 168, f 169, f 170, f 171, f 172, f 173, f 174, f 175, f 176, f 177, f 178, f 179, f 180, f 181, f 182, f 183, f 184, f 185, f 186, f 187, f 188, f 189, f 190, f 191, f 192, f 193, f 194, f 195, f 196, f 197, f 198, f 199, f 200, f 201, f 202, f 203, f 204, f 205, f 206, f 207, f 208, f 209, f 210, f 211, f 212, f 213, f 214, f 215, f 216, f 217, f 218, f 219, f 220, f 221, f 222, f 223, f 224, f 225], defers := [] } _
  conv => arg 2; whnf
  go_wp2_with fail
  refine cut_use (n := 226) (K := K) _ rfl ?_
  exact HK.out _ (kp_mk rfl) rfl
set_option maxRecDepth 100000 in
set_option maxHeartbeats 4000000 in
theorem ptR10 {K : Act → World → Prop} {Q : Exit → Act → World → Prop} (W : World) (k n c : Nat) (a : Option Addr) (f : Nat → Value) (h0 : f 0 = .slice a n c) (h13 : f 13 = .int .i64 k)
    (hK : k < n → ∀ f', Kp kpC f f' → f' 13 = .int .i64 k → K (frA 226 f') W) (hQ : ¬ k < n → ∀ f', Kp kpC f f' → Q (.exit 0) (frA 226 f') W) :
    Code.wp Tryz.prog (lvFst ptL) (Exit.then K Q) (frA 226 f) W := by
  have HK := Lib.hid hK; have HQ := Lib.hid hQ; have H0 := Lib.hid h0
  clear hK hQ
  show Code.wp _ _ _ { tmps := #[f 0, f 1, f 2, f 3, f 4, f 5, f 6, f 7, f 8, f 9, f 10, f 11, f 12, f 13, f 14, f 15, f 16, f 17, f 18, f 19, f 20, f 21, f 22, f 23, f 24, f 25, f 26, f 27, f 28, f 29, f 30, f 31, f 32, f 33, f 34, f 35, f 36, f 37, f 38, f 39, f 40, f 41, f 42, f 43, f 44, f 45, f 46, f 47, f 48, f 49, f 50, f 51, f 52, f 53, f 54, f 55, f 56, f 57, f 58, f 59, f 60, f 61, f 62, f 63, f 64, f 65, f 66, f 67, f 68, f 69, f 70, f 71, f 72, f 73, f 74, f 75, f 76, f 77, f 78, f 79, f 80, f 81, f 82, f 83, f 84, f 85, f 86, f 87, f 88, f 89, f 90, f 91, f 92, f 93, f 94, f 95, f 96, f 97, f 98, f 99, f 100, f 101, f 102, f 103, f 104, f 105, f 106, f 107, f 108, f 109, f 110, f 111, f 112, f 113, f 114, f 115, f 116, f 117, f 118, f 119, f 120, f 121, f 122, f 123, f 124, f 125, f 126, f 127, f 128, f 129, f 130, f 131, f 132, f 133, f 134, f 135, f 136, f 137, f 138, f 139, f 140, f 141, f 142, f 143, f 144, f 145, f 146, f 147, f 148, f 149, f 150, f 151, f 152, f 153, f 154, f 155, f 156, f 157, f 158, f 159, f 160, f 161, f 162, f 163, f 164, f 165, f 166, f 167, f 168, f 169, f 170, f 171, f 172, f 173, f 174, f 175, f 176, f 177, f 178, f 179, f 180, f 181, f 182, f 183, f 184, f 185, f 186, f 187, f 188, f 189, f 190, f 191, f 192, f 193, f 194, f 195, f 196, f 197, f 198, f 199, f 200, f 201, f 202, f 203, f 204, f 205, f 206, f 207, f 208, f 209, f 210, f 211, f 212, f 213, f 214, f 215, f 216, f 217, f 218, f 219, f 220, f 221, f 222, f 223, f 224, f 225], defers := [] } _
  rw [h0, h13]
  clear h0 h13
  conv => arg 2; whnf
  by_cases hlt : k < n
  · have hki : (k : Int) < (n : Int) := by omega
    go_wp2_with fail
    refine cut_use (n := 226) (K := K) _ rfl ?_
    exact HK.out hlt _ (kp_mk (by simp only [kpC, List.map_cons, List.map_nil, H0.out]; rfl)) rfl
  · have hki : ¬ (k : Int) < (n : Int) := by omega
    go_wp2_with fail
    refine cut_useQ (n := 226) (Q := Q) (e := .exit 0) _ rfl ?_
    exact HQ.out hlt _ (kp_mk (by simp only [kpC, List.map_cons, List.map_nil, H0.out]; rfl))
set_option maxRecDepth 100000 in
set_option maxHeartbeats 4000000 in
theorem ptR11 {K : Act → World → Prop} {Q : Exit → Act → World → Prop} (W : World) (k : Nat) (hk : k ≤ 100000) (f : Nat → Value) (h13 : f 13 = .int .i64 k)
    (hK : ∀ f', Kp kpC f f' → f' 13 = .int .i64 ((k + 1 : Nat) : Int) → K (frA 226 f') W) :
    Code.wp Tryz.prog (lxSnd (lxSnd ptL)) (Exit.then K Q) (frA 226 f) W := by
  have HK := Lib.hid hK
  clear hK
  show Code.wp _ _ _ { tmps := #[f 0, f 1, f 2, f 3, f 4, f 5, f 6, f 7, f 8, f 9, f 10, f 11, f 12, f 13, f 14, f 15, f 16, f 17, f 18, f 19, f 20, f 21, f 22, f 23, f 24, f 25, f 26, f 27, f 28, f 29, f 30, f 31, f 32, f 33, f 34, f 35, f 36, f 37, f 38, f 39, f 40, f 41, f 42, f 43, f 44, f 45, f 46, f 47, f 48, f 49, f 50, f 51, f 52, f 53, f 54, f 55, f 56, f 57, f 58, f 59, f 60, f 61, f 62, f 63, f 64, f 65, f 66, f 67, f 68, f 69, f 70, f 71, f 72, f 73, f 74, f 75, f 76, f 77, f 78, f 79, f 80, f 81, f 82, f 83, f 84, f 85, f 86, f 87, f 88, f 89, f 90, f 91, f 92, f 93, f 94, f 95, f 96, f 97, f 98, f 99, f 100, f 101, f 102, f 103, f 104, f 105, f 106, f 107, f 108, f 109, f 110, f 111, f 112, f 113, f 114, f 115, f 116, f 117, f 118, f 119, f 120, f 121, f 122, f 123, f 124, f 125, f 126, f 127, f 128, f 129, f 130, f 131, f 132, f 133, f 134, f 135, f 136, f 137, f 138, f 139, f 140, f 141, f 142, f 143, f 144, f 145, f 146, f 147, f 148, f 149, f 150, f 151, f 152, f 153, f 154, f 155, f 156, f 157, f 158, f 159, f 160, f 161, f 162, f 163, f 164, f 165, f 166, f 167, f 168, f 169, f 170, f 171, f 172, f 173, f 174, f 175, f 176, f 177, f 178, f 179, f 180, f 181, f 182, f 183, f 184, f 185, f 186, f 187, f 188, f 189, f 190, f 191, f 192, f 193, f 194, f 195, f 196, f 197, f 198, f 199, f 200, f 201, f 202, f 203, f 204, f 205, f 206, f 207, f 208, f 209, f 210, f 211, f 212, f 213, f 214, f 215, f 216, f 217, f 218, f 219, f 220, f 221, f 222, f 223, f 224, f 225], defers := [] } _
  rw [h13]
  clear h13
  conv => arg 2; whnf
  go_wp2_with fail
  refine cut_use (n := 226) (K := K) _ rfl ?_
  exact HK.out _ (kp_mk rfl) (by show Value.int .i64 ((k : Int) + 1) = _; go_num)
set_option maxRecDepth 100000 in
set_option maxHeartbeats 4000000 in
theorem ptR12 {K : Act → World → Prop} {Q : Exit → Act → World → Prop} (W : World) (b off k n cap : Nat) (ct : Int) (ca : Option Addr) (cn cc p1 : Nat) (f : Nat → Value) (hk : k < n) (h0 : f 0 = .slice (some ⟨b, off, none⟩) n cap) (h13 : f 13 = .int .i64 k) (h9 : f 9 = vP p1)
    (c0 : W.cell? ⟨b, off + k * 2, none⟩ = some (.int .u64 ct)) (c1 : W.cell? ⟨b, off + k * 2 + 1, none⟩ = some (.slice ca cn cc)) (P : World → Prop)
    (hA : Calls Tryz.prog 31 #[vP p1, .agg #[.int .u64 ct, .slice ca cn cc]] W fun e w' => (∃ a E : Int, e = .returned (.tuple #[.int .i64 a, .int .i64 E])) ∧ P w')
    (hK : ∀ f' W', Kp kpC f f' → f' 13 = .int .i64 k → P W' → K (frA 226 f') W') :
    Code.wp Tryz.prog (lvFst (ptC 0)) (Exit.then K Q) (frA 226 f) W := by
  have HA := Lib.hid hA; have HK := Lib.hid hK; have H0 := Lib.hid h0; have H9 := Lib.hid h9
  clear hK hA
  have hki : (k : Int) < (n : Int) := by omega
  show Code.wp _ _ _ { tmps := #[f 0, f 1, f 2, f 3, f 4, f 5, f 6, f 7, f 8, f 9, f 10, f 11, f 12, f 13, f 14, f 15, f 16, f 17, f 18, f 19, f 20, f 21, f 22, f 23, f 24, f 25, f 26, f 27, f 28, f 29, f 30, f 31, f 32, f 33, f 34, f 35, f 36, f 37, f 38, f 39, f 40, f 41, f 42, f 43, f 44, f 45, f 46, f 47, f 48, f 49, f 50, f 51, f 52, f 53, f 54, f 55, f 56, f 57, f 58, f 59, f 60, f 61, f 62, f 63, f 64, f 65, f 66, f 67, f 68, f 69, f 70, f 71, f 72, f 73, f 74, f 75, f 76, f 77, f 78, f 79, f 80, f 81, f 82, f 83, f 84, f 85, f 86, f 87, f 88, f 89, f 90, f 91, f 92, f 93, f 94, f 95, f 96, f 97, f 98, f 99, f 100, f 101, f 102, f 103, f 104, f 105, f 106, f 107, f 108, f 109, f 110, f 111, f 112, f 113, f 114, f 115, f 116, f 117, f 118, f 119, f 120, f 121, f 122, f 123, f 124, f 125, f 126, f 127, f 128, f 129, f 130, f 131, f 132, f 133, f 134, f 135, f 136, f 137, f 138, f 139, f 140, f 141, f 142, f 143, f 144, f 145, f 146, f 147, f 148, f 149, f 150, f 151, f 152, f 153, f 154, f 155, f 156, f 157, f 158, f 159, f 160, f 161, f 162, f 163, f 164, f 165, f 166, f 167, f 168, f 169, f 170, f 171, f 172, f 173, f 174, f 175, f 176, f 177, f 178, f 179, f 180, f 181, f 182, f 183, f 184, f 185, f 186, f 187, f 188, f 189, f 190, f 191, f 192, f 193, f 194, f 195, f 196, f 197, f 198, f 199, f 200, f 201, f 202, f 203, f 204, f 205, f 206, f 207, f 208, f 209, f 210, f 211, f 212, f 213, f 214, f 215, f 216, f 217, f 218, f 219, f 220, f 221, f 222, f 223, f 224, f 225], defers := [] } _
  rw [h0, h13, h9]
  clear h0 h13 h9
  conv => arg 2; whnf
  go_wp2_with fail
  refine HA.out.mono ?_
  rintro e w1 ⟨⟨a, E, rfl⟩, hp⟩
  have HP := Lib.hid hp
  clear hp
  go_wp2_with fail
  refine cut_use (n := 226) (K := K) _ rfl ?_
  exact HK.out _ _ (kp_mk (by simp only [kpC, List.map_cons, List.map_nil, H0.out, H9.out]; rfl)) rfl HP.out
abbrev Held13 (b o : Nat) (B11 p2 : Nat) (ct : Int) (ca : Option Addr) (cn cc : Nat) (W : World) : Prop := BoxB B11 #[.pointer (some ⟨p2, 0, none⟩)] W ∧ W.cell? ⟨b, o, none⟩ = some (.int .u64 ct) ∧ W.cell? ⟨b, o + 1, none⟩ = some (.slice ca cn cc)
set_option maxRecDepth 100000 in
set_option maxHeartbeats 4000000 in
theorem ptR13 {K : Act → World → Prop} {Q : Exit → Act → World → Prop} (W : World) (b off k n cap : Nat) (ct : Int) (ca : Option Addr) (cn cc p2 B11 : Nat) (f : Nat → Value) (hk : k < n) (h0 : f 0 = .slice (some ⟨b, off, none⟩) n cap) (h13 : f 13 = .int .i64 k) (h11 : f 11 = vP B11)
    (hh : Held13 b (off + k * 2) B11 p2 ct ca cn cc W.drew) (P : World → Prop)
    (hA : Calls Tryz.prog 31 #[vP p2, .agg #[.int .u64 ct, .slice ca cn cc]] W.drew fun e w' => (∃ a E : Int, e = .returned (.tuple #[.int .i64 a, .int .i64 E])) ∧ Held13 b (off + k * 2) B11 p2 ct ca cn cc w' ∧ P w')
    (hK : ∀ f' W', Kp kpC f f' → f' 13 = .int .i64 k → P W' → K (frA 226 f') W') :
    Code.wp Tryz.prog (lxSnd (ptC 0)) (Exit.then K Q) (frA 226 f) W := by
  have HA := Lib.hid hA; have HK := Lib.hid hK; have H0 := Lib.hid h0; have H11 := Lib.hid h11; have HH := Lib.hid hh
  obtain ⟨⟨m11, l11⟩, c0, c1⟩ := hh
  clear hK hA
  have hki : (k : Int) < (n : Int) := by omega
  show Code.wp _ _ _ { tmps := #[f 0, f 1, f 2, f 3, f 4, f 5, f 6, f 7, f 8, f 9, f 10, f 11, f 12, f 13, f 14, f 15, f 16, f 17, f 18, f 19, f 20, f 21, f 22, f 23, f 24, f 25, f 26, f 27, f 28, f 29, f 30, f 31, f 32, f 33, f 34, f 35, f 36, f 37, f 38, f 39, f 40, f 41, f 42, f 43, f 44, f 45, f 46, f 47, f 48, f 49, f 50, f 51, f 52, f 53, f 54, f 55, f 56, f 57, f 58, f 59, f 60, f 61, f 62, f 63, f 64, f 65, f 66, f 67, f 68, f 69, f 70, f 71, f 72, f 73, f 74, f 75, f 76, f 77, f 78, f 79, f 80, f 81, f 82, f 83, f 84, f 85, f 86, f 87, f 88, f 89, f 90, f 91, f 92, f 93, f 94, f 95, f 96, f 97, f 98, f 99, f 100, f 101, f 102, f 103, f 104, f 105, f 106, f 107, f 108, f 109, f 110, f 111, f 112, f 113, f 114, f 115, f 116, f 117, f 118, f 119, f 120, f 121, f 122, f 123, f 124, f 125, f 126, f 127, f 128, f 129, f 130, f 131, f 132, f 133, f 134, f 135, f 136, f 137, f 138, f 139, f 140, f 141, f 142, f 143, f 144, f 145, f 146, f 147, f 148, f 149, f 150, f 151, f 152, f 153, f 154, f 155, f 156, f 157, f 158, f 159, f 160, f 161, f 162, f 163, f 164, f 165, f 166, f 167, f 168, f 169, f 170, f 171, f 172, f 173, f 174, f 175, f 176, f 177, f 178, f 179, f 180, f 181, f 182, f 183, f 184, f 185, f 186, f 187, f 188, f 189, f 190, f 191, f 192, f 193, f 194, f 195, f 196, f 197, f 198, f 199, f 200, f 201, f 202, f 203, f 204, f 205, f 206, f 207, f 208, f 209, f 210, f 211, f 212, f 213, f 214, f 215, f 216, f 217, f 218, f 219, f 220, f 221, f 222, f 223, f 224, f 225], defers := [] } _
  rw [h0, h13, h11]
  clear h0 h13 h11
  conv => arg 2; whnf
  go_region_held3 (Held13 b (off + k * 2) B11 p2 ct ca cn cc) (first
    | (with_reducible assumption)
    | (with_reducible exact HH.out)
    | (with_reducible exact hb3)
    | fail) (first
    | (go_simp; go_at_call 31; refine HA.out.mono ?_; rintro e w3 ⟨⟨a, E, rfl⟩, hb3, hp3⟩)
    | fail)
  all_goals
    refine cut_use (n := 226) (K := K) _ rfl ?_
    exact HK.out _ _ (kp_mk (by simp only [kpC, List.map_cons, List.map_nil, H0.out, H11.out]; rfl)) rfl hp3
end Go.Proofs.YtefepfiijoafbaaGreat
namespace Go.Proofs.YtefepfiijoafbaaGreat
open Go.RowKit Go.Shelf Go.Maps
set_option linter.unusedVariables false
set_option linter.unusedSimpArgs false

theorem wp_inBP {P : Program} {c : Code} {n : Nat} {K : Act → World → Prop} {Q : Exit → Act → World → Prop} {a : Act} {W : World} (h : Code.wp P c (Exit.then K (Exit.inBlock n (Exit.then K Q))) a W) : Code.wp P c (Exit.inBlock n (Exit.then K Q)) a W :=
  Code.wp_mono (Q := Exit.then K (Exit.inBlock n (Exit.then K Q))) (fun e a w h => by cases e <;> exact h) h
theorem frA_get (n : Nat) (f : Nat → Value) (i : Nat) (hi : i < n) (d : Value) : (frA n f).tmps.getD i d = f i := by
  simp [frA, hi]
/-- The rounds' slots and what is known at their head. -/
def PtI (w : World) (BR B5 B11 p1 p2 L : Nat) (t : Int) (f : Nat → Value) (a : Act) (W : World) : Prop := ∃ f' R1 R2 l m k, a = frA 226 f' ∧ Kp kpC f f' ∧ f' 13 = .int .i64 (k : Nat) ∧ k ≤ L ∧ PtS w BR B5 B11 p1 p2 R1 R2 l m k t W
def PtM (L : Nat) (a : Act) (_ : World) : Nat := L - (intOf (a.tmps.getD 13 (.bool false))).toNat
theorem ptLoop {K : Act → World → Prop} {Q : Exit → Act → World → Prop} (w W : World) (R1 R2 : Nat → Prop) (BR B5 B11 p1 p2 b : Nat) (v : Value) (cs : List CmV) (hcs : Cms w b v cs) (hl : cs.length ≤ 20) (t : Int) (f : Nat → Value) (l m : PL)
    (hS : PtS w BR B5 B11 p1 p2 R1 R2 l m 0 t W) (h0 : f 0 = v) (h9 : f 9 = vP p1) (h11 : f 11 = vP B11)
    (hK : ∀ f' W' R1' R2' l' m', Kp kpC f f' → PtS w BR B5 B11 p1 p2 R1' R2' l' m' 20 t W' → K (frA 226 f') W') :
    Code.wp Tryz.prog (lvFst (ptB 6)) (Exit.then K Q) (frA 226 f) W := by
  obtain ⟨⟨a, off, cap, rfl, r1, r2, r3, -, r5⟩, hG⟩ := hcs
  rw [ptB6_eq]
  refine wp_seq (ptR9 W f fun f1 k1 e13 => ?_)
  refine wp_block ?_
  refine wp_loop (PtI w BR B5 B11 p1 p2 cs.length t f) (PtM cs.length) ⟨f1, R1, R2, l, m, 0, rfl, k1, e13, Nat.zero_le _, hS⟩ ?_
  rintro a' Wx ⟨f2, Q1, Q2, x, y, k, rfl, k2, e2, hk, hS2⟩
  have hm : PtM cs.length (frA 226 f2) Wx = cs.length - k := by unfold PtM; rw [frA_get _ _ _ (by decide), e2]; simp [intOf]
  rw [hm, ptL_eq]
  refine wp_seq (ptR10 Wx k cs.length cap a f2 ((k2.at 0 (by decide)).trans h0) e2 (fun hlt f3 k3 e3 => ?_) fun hlt f3 k3 => ?_)
  · obtain rfl := r3 (by omega)
    have hc := hG cs[k] (List.getElem_mem hlt)
    have d0 := r5 k hlt 0 (by decide)
    have d1 := r5 k hlt 1 (by decide)
    obtain ⟨⟨ct, ca, cn, cc⟩, hcv⟩ : ∃ c, cs[k] = c := ⟨_, rfl⟩
    rw [hcv] at hc d0 d1
    simp only [CmV.enc, List.getElem?_cons_zero, List.getElem?_cons_succ, Nat.add_zero] at d0 d1
    have k03 : Kp kpC f f3 := k2.trans k3 fun _ h => h
    refine wp_seq (wp_block ?_)
    have hbw : b < w.heap.size := lt_of_cell d0
    refine wp_inBP (wp_seq (ptR12 Wx b off k cs.length cap ct ca cn cc p1 f3 hlt ((k03.at 0 (by decide)).trans h0) e3 ((k03.at 9 (by decide)).trans h9) (hS2.box.fr.cell id d0) (hS2.box.fr.cell id d1)
      (fun w' => ∃ R' l', PtS w BR B5 B11 p1 p2 R' Q2 l' y (k + 1) t w')
      ((lx_addC hS2.ll hS2.bl (by omega) hc).mono fun e w' hh => ?_) fun f4 W4 k4 e4 hP => ?_))
    · obtain ⟨l', hb, hE, R', g1, g2, g3⟩ := hh
      exact ⟨hE, R', l', hS2.add1 g1 g2 g3 hb⟩
    · obtain ⟨Q1', x', hS4⟩ := hP
      have hS4' := hS4.fr (Fr.refl N0 W4).drew
      have hH : Held13 b (off + k * 2) B11 p2 ct ca cn cc W4.drew := ⟨⟨(box_cells hS4'.b11).1, (box_cells hS4'.b11).2.2⟩, hS4'.box.fr.cell id d0, hS4'.box.fr.cell id d1⟩
      have k04 : Kp kpC f f4 := k03.trans k4 fun _ h => h
      refine ptR13 W4 b off k cs.length cap ct ca cn cc p2 B11 f4 hlt ((k04.at 0 (by decide)).trans h0) e4 ((k04.at 11 (by decide)).trans h11) hH
        (fun w' => ∃ R' m', PtS w BR B5 B11 p1 p2 Q1' R' x' m' (k + 1) t w')
        ((lx_addC hS4'.mm (hS2.bm) (by omega) hc).mono fun e w' hh => ?_) fun f5 W5 k5 e5 hP5 => ?_
      · obtain ⟨m', hb, hE, R', g1, g2, g3⟩ := hh
        have hS5 := hS4'.add2 g1 g2 g3 hb
        have hnb : ¬ Q2 b := fun hr => by have := (hS4'.mm.2.1 b hr).1; omega
        have hn11 := (hS4'.out B11 (.inr (.inr rfl))).2
        exact ⟨hE, ⟨boxB_keep g3 hn11 hH.1, g3.cell hnb hH.2.1, g3.cell hnb hH.2.2⟩, R', m', hS5⟩
      · obtain ⟨Q2', y', hS5⟩ := hP5
        refine ptR11 W5 k (by omega) f5 e5 fun f6 k6 e6 => ⟨⟨f6, Q1', Q2', x', y', k + 1, rfl, (k04.trans k5 fun _ h => h).trans k6 fun _ h => h, e6, hlt, hS5⟩, ?_⟩
        unfold PtM
        rw [frA_get _ _ _ (by decide), e6]
        exact Nat.sub_lt_sub_left hlt (Nat.lt_succ_self k)
  · exact hK f3 Wx Q1 Q2 x y (k2.trans k3 fun _ h => h) ⟨hS2.ll, hS2.mm, hS2.ap, hS2.box, hS2.b11, hS2.new11, hS2.out, hS2.bl.mono (by omega), hS2.bm.mono (by omega)⟩
end Go.Proofs.YtefepfiijoafbaaGreat
