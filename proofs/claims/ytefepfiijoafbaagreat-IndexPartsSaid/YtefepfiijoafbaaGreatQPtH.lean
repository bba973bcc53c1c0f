/- IndexParts: what is found. IndexParts: what is found, the rest. IndexParts: the lengths are compared. -/
import Derived.Test.YtefepfiijoafbaaGreatQPtD
namespace Go.Proofs.YtefepfiijoafbaaGreat
open Go.RowKit Go.Shelf Go.Maps
attribute [local go_sem] Oper.semAt_some
attribute [local go_sem ↓] Go.wp_at_zero Go.wp_at_succ
attribute [local irreducible] wpQuiet
set_option linter.unusedVariables false
set_option linter.unusedSimpArgs false

/-- A question's answer, whatever the numbers' block. -/
def AskP (W : World) (p : Nat) (k t : Int) (xs : List Val) (N : Nat) (P : Int → Prop) : Prop := ∀ (W' : World) (S : Nat), Fr N0 W W' → W'.heap[S]? = some (.cells (xs.flatMap Val.enc).toArray 57 (0, 0)) →
  Calls Tryz.prog 32 #[vP p, .int .u8 k, .int .u64 t, .slice (some ⟨S, 0, none⟩) xs.length xs.length] W' (PtPost W' N P)
section
variable {W : World} {R : Nat → Prop} {p : Nat} {l : PL} {N : Nat} (h : AgeL W R p l N) (t a b : Int) (ht : 0 ≤ t)
include h ht
theorem ask_lt : AskP W p 6 t [numV a] (256 * N) (anyP (haveAt l t) (cmpP (fun x y => decide (x < y)) (numV a))) := fun W' S hf hS => (h.fr hf).cmp t a ht 6 171 _ fLt_any (enters_of Tryz.func171 (by kernel_rfl) rfl) (by simp) S hS
theorem ask_le : AskP W p 7 t [numV a] (256 * N) (anyP (haveAt l t) (cmpP (fun x y => decide (x ≤ y)) (numV a))) := fun W' S hf hS => (h.fr hf).cmp t a ht 7 172 _ fLe_any (enters_of Tryz.func172 (by kernel_rfl) rfl) (by simp) S hS
theorem ask_gt : AskP W p 8 t [numV a] (256 * N) (anyP (haveAt l t) (cmpP (fun x y => decide (y < x)) (numV a))) := fun W' S hf hS => (h.fr hf).cmp t a ht 8 173 _ fGt_any (enters_of Tryz.func173 (by kernel_rfl) rfl) (by simp) S hS
theorem ask_ge : AskP W p 9 t [numV a] (256 * N) (anyP (haveAt l t) (cmpP (fun x y => decide (y ≤ x)) (numV a))) := fun W' S hf hS => (h.fr hf).cmp t a ht 9 174 _ fGe_any (enters_of Tryz.func174 (by kernel_rfl) rfl) (by simp) S hS
theorem ask_eq1 : AskP W p 3 t [numV a] (256 * N) (anyP (haveAt l t) fun x => [numV a].any (eqVal x)) := fun W' S hf hS => (h.fr hf).eq1 t a ht S hS
theorem ask_eq2 : AskP W p 3 t [numV a, numV b] (256 * N) (anyP (haveAt l t) fun x => [numV a, numV b].any (eqVal x)) := fun W' S hf hS => (h.fr hf).eq2 t a b ht S hS
end
theorem AskP.fr {W W' : World} {p : Nat} {k t : Int} {xs : List Val} {N : Nat} {P : Int → Prop} (h : AskP W p k t xs N P) (hf : Fr N0 W W') : AskP W' p k t xs N P := fun W2 S h2 hS => h W2 S (hf.then0 h2) hS
set_option maxRecDepth 100000 in
set_option maxHeartbeats 4000000 in
theorem pt7 {K : Act → World → Prop} {Q : Exit → Act → World → Prop} (W : World) (f : Nat → Value) (p B5 N : Nat) (t : Int) (P : Int → Prop) (h5 : f 5 = vP B5) (h9 : f 9 = vP p) (hb : W.heap[B5]? = some (.cells #[.int .u64 t] 33 (0, 0)))
    (hA : Calls Tryz.prog 32 #[vP p, .int .u8 2, .int .u64 t, .slice none 0 0] W (PtPost W N P))
    (hK : ∀ f' W' v, Kp kpC f f' → f' 14 = v → LenIs P N v → Fr N0 W W' → K (frA 226 f') W') :
    Code.wp Tryz.prog (lvFst (ptB 7)) (Exit.then K Q) (frA 226 f) W := by
  have HA := Lib.hid hA; have HK := Lib.hid hK; have H5 := Lib.hid h5; have H9 := Lib.hid h9
  have cb := cell_of_one hb
  clear hA hK hb
  show Code.wp _ _ _ { tmps := #[f 0, f 1, f 2, f 3, f 4, f 5, f 6, f 7, f 8, f 9, f 10, f 11, f 12, f 13, f 14, f 15, f 16, f 17, f 18, f 19, f 20, f 21, f 22, f 23, f 24, f 25, f 26, f 27, f 28, f 29, f 30, f 31, f 32, f 33, f 34, f 35, f 36, f 37, f 38, f 39, f 40, f 41, f 42, f 43, f 44, f 45, f 46, f 47, f 48, f 49, f 50, f 51, f 52, f 53, f 54, f 55, f 56, f 57, f 58, f 59, f 60, f 61, f 62, f 63, f 64, f 65, f 66, f 67, f 68, f 69, f 70, f 71, f 72, f 73, f 74, f 75, f 76, f 77, f 78, f 79, f 80, f 81, f 82, f 83, f 84, f 85, f 86, f 87, f 88, f 89, f 90, f 91, f 92, f 93, f 94, f 95, f 96, f 97, f 98, f 99, f 100, f 101, f 102, f 103, f 104, f 105, f 106, f 107, f 108, f 109, f 110, f 111, f 112, f 113, f 114, f 115, f 116, f 117, f 118, f 119, f 120, f 121, f 122, f 123, f 124, f 125, f 126, f 127, f 128, f 129, f 130, f 131, f 132, f 133, f 134, f 135, f 136, f 137, f 138, f 139, f 140, f 141, f 142, f 143, f 144, f 145, f 146, f 147, f 148, f 149, f 150, f 151, f 152, f 153, f 154, f 155, f 156, f 157, f 158, f 159, f 160, f 161, f 162, f 163, f 164, f 165, f 166, f 167, f 168, f 169, f 170, f 171, f 172, f 173, f 174, f 175, f 176, f 177, f 178, f 179, f 180, f 181, f 182, f 183, f 184, f 185, f 186, f 187, f 188, f 189, f 190, f 191, f 192, f 193, f 194, f 195, f 196, f 197, f 198, f 199, f 200, f 201, f 202, f 203, f 204, f 205, f 206, f 207, f 208, f 209, f 210, f 211, f 212, f 213, f 214, f 215, f 216, f 217, f 218, f 219, f 220, f 221, f 222, f 223, f 224, f 225], defers := [] } _
  rw [h5, h9]
  clear h5 h9
  conv => arg 2; whnf
  go_wp2_with fail
  refine HA.out.mono ?_
  rintro e w1 ⟨⟨v, rfl, hv⟩, hf1⟩
  have HV := Lib.hid hv; have HF := Lib.hid hf1
  clear hv hf1
  go_wp2_with fail
  refine cut_use (n := 226) (K := K) _ rfl ?_
  exact HK.out _ w1 v (kp_mk (by simp only [kpC, List.map_cons, List.map_nil, H5.out, H9.out]; rfl)) rfl HV.out HF.out
set_option maxRecDepth 100000 in
set_option maxHeartbeats 4000000 in
theorem pt8 {K : Act → World → Prop} {Q : Exit → Act → World → Prop} (W : World) (f : Nat → Value) (p B5 N : Nat) (t a : Int) (P1 P2 : Int → Prop) (h2 : f 2 = .int .i64 a) (h5 : f 5 = vP B5) (h9 : f 9 = vP p) (hb : W.heap[B5]? = some (.cells #[.int .u64 t] 33 (0, 0)))
    (hA1 : AskP W p 6 t [numV a] N P1) (hA2 : AskP W p 9 t [numV a] N P2)
    (hK : ∀ f' W' v1 v2, Kp (14 :: kpC) f f' → f' 15 = v1 → f' 16 = v2 → LenIs P1 N v1 → LenIs P2 N v2 → Fr N0 W W' → K (frA 226 f') W') :
    Code.wp Tryz.prog (lvFst (ptB 8)) (Exit.then K Q) (frA 226 f) W := by
  have HA1 := Lib.hid hA1; have HA2 := Lib.hid hA2; have HK := Lib.hid hK; have H2 := Lib.hid h2; have H5 := Lib.hid h5; have H9 := Lib.hid h9
  have HN := Lib.hid fun W n => lxNum_any W n
  unfold AskP at HA1 HA2
  simp only [numV, Val.enc, List.flatMap_cons, List.flatMap_nil, List.cons_append, List.nil_append, List.append_nil, List.length_cons, List.length_nil, Nat.reduceAdd] at HN HA1 HA2
  have hb0 : BoxB B5 #[.int .u64 t] W := ⟨(box_cells hb).1, (box_cells hb).2.2⟩
  have hbD : BoxB B5 #[.int .u64 t] W.drew := boxB_keep (Fr.refl N0 W).drew id hb0
  have hfD : Fr N0 W W.drew := (Fr.refl N0 W).drew
  obtain ⟨mb, lb⟩ := hb0
  clear hA1 hA2 hK hb
  show Code.wp _ _ _ { tmps := #[f 0, f 1, f 2, f 3, f 4, f 5, f 6, f 7, f 8, f 9, f 10, f 11, f 12, f 13, f 14, f 15, f 16, f 17, f 18, f 19, f 20, f 21, f 22, f 23, f 24, f 25, f 26, f 27, f 28, f 29, f 30, f 31, f 32, f 33, f 34, f 35, f 36, f 37, f 38, f 39, f 40, f 41, f 42, f 43, f 44, f 45, f 46, f 47, f 48, f 49, f 50, f 51, f 52, f 53, f 54, f 55, f 56, f 57, f 58, f 59, f 60, f 61, f 62, f 63, f 64, f 65, f 66, f 67, f 68, f 69, f 70, f 71, f 72, f 73, f 74, f 75, f 76, f 77, f 78, f 79, f 80, f 81, f 82, f 83, f 84, f 85, f 86, f 87, f 88, f 89, f 90, f 91, f 92, f 93, f 94, f 95, f 96, f 97, f 98, f 99, f 100, f 101, f 102, f 103, f 104, f 105, f 106, f 107, f 108, f 109, f 110, f 111, f 112, f 113, f 114, f 115, f 116, f 117, f 118, f 119, f 120, f 121, f 122, f 123, f 124, f 125, f 126, f 127, f 128, f 129, f 130, f 131, f 132, f 133, f 134, f 135, f 136, f 137, f 138, f 139, f 140, f 141, f 142, f 143, f 144, f 145, f 146, f 147, f 148, f 149, f 150, f 151, f 152, f 153, f 154, f 155, f 156, f 157, f 158, f 159, f 160, f 161, f 162, f 163, f 164, f 165, f 166, f 167, f 168, f 169, f 170, f 171, f 172, f 173, f 174, f 175, f 176, f 177, f 178, f 179, f 180, f 181, f 182, f 183, f 184, f 185, f 186, f 187, f 188, f 189, f 190, f 191, f 192, f 193, f 194, f 195, f 196, f 197, f 198, f 199, f 200, f 201, f 202, f 203, f 204, f 205, f 206, f 207, f 208, f 209, f 210, f 211, f 212, f 213, f 214, f 215, f 216, f 217, f 218, f 219, f 220, f 221, f 222, f 223, f 224, f 225], defers := [] } _
  rw [h2, h5, h9]
  clear h2 h5 h9
  conv => arg 2; whnf
  go_region_held3 (BoxB B5 #[.int .u64 t]) (first
    | (with_reducible assumption)
    | (with_reducible exact boxB_keep ((Fr.refl N0 _).alloc _) id (by assumption))
    | fail) (first
    | (go_simp; go_at_call 33; refine (HN.out _ _).mono ?_; first
        | (rintro e w5 ⟨rfl, hf5⟩; have hb5 := boxB_keep hf5 id hb4; have hg5 := hg4.then0 hf5)
        | (rintro e w3 ⟨rfl, hf3⟩; have hb3 := boxB_keep hf3 id hbD; have hg3 := hfD.then0 hf3)
        | fail)
    | (go_simp; go_at_call 32; first
        | (refine (HA2.out _ _ (hg5.alloc _) (World.alloc_heap_new _ _)).mono ?_; rintro e w6 ⟨⟨v2, rfl, hv2⟩, hf6⟩; have hb6 := boxB_keep hf6 id (boxB_keep ((Fr.refl N0 _).alloc _) id hb5); have hg6 := (hg5.alloc _).then0 hf6)
        | (refine (HA1.out _ _ (hg3.alloc _) (World.alloc_heap_new _ _)).mono ?_; rintro e w4 ⟨⟨v1, rfl, hv1⟩, hf4⟩; have hb4 := boxB_keep hf4 id (boxB_keep ((Fr.refl N0 _).alloc _) id hb3); have hg4 := (hg3.alloc _).then0 hf4)
        | fail)
    | fail)
  all_goals
    refine cut_use (n := 226) (K := K) _ rfl ?_
    exact HK.out _ _ v1 v2 (kp_mk (by simp only [kpC, List.map_cons, List.map_nil, H2.out, H5.out, H9.out]; rfl)) rfl rfl hv1 hv2 hg6
end Go.Proofs.YtefepfiijoafbaaGreat
namespace Go.Proofs.YtefepfiijoafbaaGreat
open Go.RowKit Go.Shelf Go.Maps
attribute [local go_sem] Oper.semAt_some
attribute [local go_sem ↓] Go.wp_at_zero Go.wp_at_succ
attribute [local irreducible] wpQuiet
set_option linter.unusedVariables false
set_option linter.unusedSimpArgs false

set_option maxRecDepth 100000 in
set_option maxHeartbeats 4000000 in
theorem pt9 {K : Act → World → Prop} {Q : Exit → Act → World → Prop} (W : World) (f : Nat → Value) (p B5 N : Nat) (t a : Int) (P1 P2 : Int → Prop) (h2 : f 2 = .int .i64 a) (h5 : f 5 = vP B5) (h9 : f 9 = vP p) (hb : W.heap[B5]? = some (.cells #[.int .u64 t] 33 (0, 0)))
    (hA1 : AskP W p 7 t [numV a] N P1) (hA2 : AskP W p 8 t [numV a] N P2)
    (hK : ∀ f' W' v1 v2, Kp (14 :: 15 :: 16 :: kpC) f f' → f' 17 = v1 → f' 18 = v2 → LenIs P1 N v1 → LenIs P2 N v2 → Fr N0 W W' → K (frA 226 f') W') :
    Code.wp Tryz.prog (lvFst (ptB 9)) (Exit.then K Q) (frA 226 f) W := by
  have HA1 := Lib.hid hA1; have HA2 := Lib.hid hA2; have HK := Lib.hid hK; have H2 := Lib.hid h2; have H5 := Lib.hid h5; have H9 := Lib.hid h9
  have HN := Lib.hid fun W n => lxNum_any W n
  unfold AskP at HA1 HA2
  simp only [numV, Val.enc, List.flatMap_cons, List.flatMap_nil, List.cons_append, List.nil_append, List.append_nil, List.length_cons, List.length_nil, Nat.reduceAdd] at HN HA1 HA2
  have hb0 : BoxB B5 #[.int .u64 t] W := ⟨(box_cells hb).1, (box_cells hb).2.2⟩
  have hbD : BoxB B5 #[.int .u64 t] W.drew := boxB_keep (Fr.refl N0 W).drew id hb0
  have hfD : Fr N0 W W.drew := (Fr.refl N0 W).drew
  obtain ⟨mb, lb⟩ := hb0
  clear hA1 hA2 hK hb
  show Code.wp _ _ _ { tmps := #[f 0, f 1, f 2, f 3, f 4, f 5, f 6, f 7, f 8, f 9, f 10, f 11, f 12, f 13, f 14, f 15, f 16, f 17, f 18, f 19, f 20, f 21, f 22, f 23, f 24, f 25, f 26, f 27, f 28, f 29, f 30, f 31, f 32, f 33, f 34, f 35, f 36, f 37, f 38, f 39, f 40, f 41, f 42, f 43, f 44, f 45, f 46, f 47, f 48, f 49, f 50, f 51, f 52, f 53, f 54, f 55, f 56, f 57, f 58, f 59, f 60, f 61, f 62, f 63, f 64, f 65, f 66, f 67, f 68, f 69, f 70, f 71, f 72, f 73, f 74, f 75, f 76, f 77, f 78, f 79, f 80, f 81, f 82, f 83, f 84, f 85, f 86, f 87, f 88, f 89, f 90, f 91, f 92, f 93, f 94, f 95, f 96, f 97, f 98, f 99, f 100, f 101, f 102, f 103, f 104, f 105, f 106, f 107, f 108, f 109, f 110, f 111, f 112, f 113, f 114, f 115, f 116, f 117, f 118, f 119, f 120, f 121, f 122, f 123, f 124, f 125, f 126, f 127, f 128, f 129, f 130, f 131, f 132, f 133, f 134, f 135, f 136, f 137, f 138, f 139, f 140, f 141, f 142, f 143, f 144, f 145, f 146, f 147, f 148, f 149, f 150, f 151, f 152, f 153, f 154, f 155, f 156, f 157, f 158, f 159, f 160, f 161, f 162, f 163, f 164, f 165, f 166, f 167, f 168, f 169, f 170, f 171, f 172, f 173, f 174, f 175, f 176, f 177, f 178, f 179, f 180, f 181, f 182, f 183, f 184, f 185, f 186, f 187, f 188, f 189, f 190, f 191, f 192, f 193, f 194, f 195, f 196, f 197, f 198, f 199, f 200, f 201, f 202, f 203, f 204, f 205, f 206, f 207, f 208, f 209, f 210, f 211, f 212, f 213, f 214, f 215, f 216, f 217, f 218, f 219, f 220, f 221, f 222, f 223, f 224, f 225], defers := [] } _
  rw [h2, h5, h9]
  clear h2 h5 h9
  conv => arg 2; whnf
  go_region_held3 (BoxB B5 #[.int .u64 t]) (first
    | (with_reducible assumption)
    | (with_reducible exact boxB_keep ((Fr.refl N0 _).alloc _) id (by assumption))
    | fail) (first
    | (go_simp; go_at_call 33; refine (HN.out _ _).mono ?_; first
        | (rintro e w5 ⟨rfl, hf5⟩; have hb5 := boxB_keep hf5 id hb4; have hg5 := hg4.then0 hf5)
        | (rintro e w3 ⟨rfl, hf3⟩; have hb3 := boxB_keep hf3 id hbD; have hg3 := hfD.then0 hf3)
        | fail)
    | (go_simp; go_at_call 32; first
        | (refine (HA2.out _ _ (hg5.alloc _) (World.alloc_heap_new _ _)).mono ?_; rintro e w6 ⟨⟨v2, rfl, hv2⟩, hf6⟩; have hb6 := boxB_keep hf6 id (boxB_keep ((Fr.refl N0 _).alloc _) id hb5); have hg6 := (hg5.alloc _).then0 hf6)
        | (refine (HA1.out _ _ (hg3.alloc _) (World.alloc_heap_new _ _)).mono ?_; rintro e w4 ⟨⟨v1, rfl, hv1⟩, hf4⟩; have hb4 := boxB_keep hf4 id (boxB_keep ((Fr.refl N0 _).alloc _) id hb3); have hg4 := (hg3.alloc _).then0 hf4)
        | fail)
    | fail)
  all_goals
    refine cut_use (n := 226) (K := K) _ rfl ?_
    exact HK.out _ _ v1 v2 (kp_mk (by simp only [kpC, List.map_cons, List.map_nil, H2.out, H5.out, H9.out]; rfl)) rfl rfl hv1 hv2 hg6
set_option maxRecDepth 100000 in
set_option maxHeartbeats 4000000 in
theorem pt10 {K : Act → World → Prop} {Q : Exit → Act → World → Prop} (W : World) (f : Nat → Value) (p B5 N : Nat) (t a b : Int) (P1 P2 P3 : Int → Prop) (h2 : f 2 = .int .i64 a) (h3 : f 3 = .int .i64 b) (h5 : f 5 = vP B5) (h9 : f 9 = vP p) (hb : W.heap[B5]? = some (.cells #[.int .u64 t] 33 (0, 0)))
    (hA1 : AskP W p 3 t [numV a] N P1) (hA2 : AskP W p 3 t [numV b] N P2) (hA3 : AskP W p 3 t [numV a, numV b] N P3)
    (hK : ∀ f' W' v1 v2 v3, Kp (14 :: 15 :: 16 :: 17 :: 18 :: kpC) f f' → f' 19 = v1 → f' 20 = v2 → f' 21 = v3 → LenIs P1 N v1 → LenIs P2 N v2 → LenIs P3 N v3 → Fr N0 W W' → K (frA 226 f') W') :
    Code.wp Tryz.prog (lvFst (ptB 10)) (Exit.then K Q) (frA 226 f) W := by
  have HA1 := Lib.hid hA1; have HA2 := Lib.hid hA2; have HA3 := Lib.hid hA3; have HK := Lib.hid hK; have H2 := Lib.hid h2; have H3 := Lib.hid h3; have H5 := Lib.hid h5; have H9 := Lib.hid h9
  have HN := Lib.hid fun W n => lxNum_any W n
  unfold AskP at HA1 HA2 HA3
  simp only [numV, Val.enc, List.flatMap_cons, List.flatMap_nil, List.cons_append, List.nil_append, List.append_nil, List.length_cons, List.length_nil, Nat.reduceAdd] at HN HA1 HA2 HA3
  have hb0 : BoxB B5 #[.int .u64 t] W := ⟨(box_cells hb).1, (box_cells hb).2.2⟩
  have hbD : BoxB B5 #[.int .u64 t] W.drew := boxB_keep (Fr.refl N0 W).drew id hb0
  have hfD : Fr N0 W W.drew := (Fr.refl N0 W).drew
  obtain ⟨mb, lb⟩ := hb0
  clear hA1 hA2 hA3 hK hb
  show Code.wp _ _ _ { tmps := #[f 0, f 1, f 2, f 3, f 4, f 5, f 6, f 7, f 8, f 9, f 10, f 11, f 12, f 13, f 14, f 15, f 16, f 17, f 18, f 19, f 20, f 21, f 22, f 23, f 24, f 25, f 26, f 27, f 28, f 29, f 30, f 31, f 32, f 33, f 34, f 35, f 36, f 37, f 38, f 39, f 40, f 41, f 42, f 43, f 44, f 45, f 46, f 47, f 48, f 49, f 50, f 51, f 52, f 53, f 54, f 55, f 56, f 57, f 58, f 59, f 60, f 61, f 62, f 63, f 64, f 65, f 66, f 67, f 68, f 69, f 70, f 71, f 72, f 73, f 74, f 75, f 76, f 77, f 78, f 79, f 80, f 81, f 82, f 83, f 84, f 85, f 86, f 87, f 88, f 89, f 90, f 91, f 92, f 93, f 94, f 95, f 96, f 97, f 98, f 99, f 100, f 101, f 102, f 103, f 104, f 105, f 106, f 107, f 108, f 109, f 110, f 111, f 112, f 113, f 114, f 115, f 116, f 117, f 118, f 119, f 120, f 121, f 122, f 123, f 124, f 125, f 126, f 127, f 128, f 129, f 130, f 131, f 132, f 133, f 134, f 135, f 136, f 137, f 138, f 139, f 140, f 141, f 142, f 143, f 144, f 145, f 146, f 147, f 148, f 149, f 150, f 151, f 152, f 153, f 154, f 155, f 156, f 157, f 158, f 159, f 160, f 161, f 162, f 163, f 164, f 165, f 166, f 167, f 168, f 169, f 170, f 171, f 172, f 173, f 174, f 175, f 176, f 177, f 178, f 179, f 180, f 181, f 182, f 183, f 184, f 185, f 186, f 187, f 188, f 189, f 190, f 191, f 192, f 193, f 194, f 195, f 196, f 197, f 198, f 199, f 200, f 201, f 202, f 203, f 204, f 205, f 206, f 207, f 208, f 209, f 210, f 211, f 212, f 213, f 214, f 215, f 216, f 217, f 218, f 219, f 220, f 221, f 222, f 223, f 224, f 225], defers := [] } _
  rw [h2, h3, h5, h9]
  clear h2 h3 h5 h9
  conv => arg 2; whnf
  go_region_held3 (BoxB B5 #[.int .u64 t]) (first
    | (with_reducible assumption)
    | (with_reducible exact boxB_keep ((Fr.refl N0 _).alloc _) id (by assumption))
    | fail) (first
    | (go_simp; go_at_call 33; refine (HN.out _ _).mono ?_; first
        | (rintro e w8 ⟨rfl, hf8⟩; have hb8 := boxB_keep hf8 id hb7; have hg8 := hg7.then0 hf8)
        | (rintro e w7 ⟨rfl, hf7⟩; have hb7 := boxB_keep hf7 id hb6; have hg7 := hg6.then0 hf7)
        | (rintro e w5 ⟨rfl, hf5⟩; have hb5 := boxB_keep hf5 id hb4; have hg5 := hg4.then0 hf5)
        | (rintro e w3 ⟨rfl, hf3⟩; have hb3 := boxB_keep hf3 id hbD; have hg3 := hfD.then0 hf3)
        | fail)
    | (go_simp; go_at_call 32; first
        | (refine (HA3.out _ _ (hg8.alloc _) (World.alloc_heap_new _ _)).mono ?_; rintro e w9 ⟨⟨v3, rfl, hv3⟩, hf9⟩; have hb9 := boxB_keep hf9 id (boxB_keep ((Fr.refl N0 _).alloc _) id hb8); have hg9 := (hg8.alloc _).then0 hf9)
        | (refine (HA2.out _ _ (hg5.alloc _) (World.alloc_heap_new _ _)).mono ?_; rintro e w6 ⟨⟨v2, rfl, hv2⟩, hf6⟩; have hb6 := boxB_keep hf6 id (boxB_keep ((Fr.refl N0 _).alloc _) id hb5); have hg6 := (hg5.alloc _).then0 hf6)
        | (refine (HA1.out _ _ (hg3.alloc _) (World.alloc_heap_new _ _)).mono ?_; rintro e w4 ⟨⟨v1, rfl, hv1⟩, hf4⟩; have hb4 := boxB_keep hf4 id (boxB_keep ((Fr.refl N0 _).alloc _) id hb3); have hg4 := (hg3.alloc _).then0 hf4)
        | fail)
    | fail)
  all_goals
    refine cut_use (n := 226) (K := K) _ rfl ?_
    exact HK.out _ _ v1 v2 v3 (kp_mk (by simp only [kpC, List.map_cons, List.map_nil, H2.out, H3.out, H5.out, H9.out]; rfl)) rfl rfl rfl hv1 hv2 hv3 hg9
end Go.Proofs.YtefepfiijoafbaaGreat
namespace Go.Proofs.YtefepfiijoafbaaGreat
open Go.RowKit Go.Shelf Go.Maps
attribute [local go_sem] Oper.semAt_some
attribute [local go_sem ↓] Go.wp_at_zero Go.wp_at_succ
attribute [local irreducible] wpQuiet
set_option linter.unusedVariables false
set_option linter.unusedSimpArgs false

/-- Slots that hold slices of these lengths. -/
structure PtLens (f : Nat → Value) (n14 n15 n16 n17 n18 n19 n20 n21 : Nat) : Prop where
  s14 : ∃ a c, f 14 = .slice a n14 c
  s15 : ∃ a c, f 15 = .slice a n15 c
  s16 : ∃ a c, f 16 = .slice a n16 c
  s17 : ∃ a c, f 17 = .slice a n17 c
  s18 : ∃ a c, f 18 = .slice a n18 c
  s19 : ∃ a c, f 19 = .slice a n19 c
  s20 : ∃ a c, f 20 = .slice a n20 c
  s21 : ∃ a c, f 21 = .slice a n21 c
def kpD : List Nat := [2, 3, 5, 8, 11]
set_option maxRecDepth 100000 in
set_option maxHeartbeats 4000000 in
theorem pt11 {K : Act → World → Prop} {Q : Exit → Act → World → Prop} (W : World) (f : Nat → Value) (n14 n15 n16 n17 n18 n19 n20 n21 : Nat) (hn : PtLens f n14 n15 n16 n17 n18 n19 n20 n21) (hb : n14 ≤ 10000 ∧ n15 ≤ 10000 ∧ n16 ≤ 10000 ∧ n17 ≤ 10000 ∧ n18 ≤ 10000 ∧ n19 ≤ 10000)
    (c1 : n15 + n16 = n14) (c2 : n17 + n18 = n14) (c3 : n15 + n19 = n17)
    (hK : ∀ f', Kp kpD f f' → (∃ a c, f' 19 = .slice a n19 c) → (∃ a c, f' 20 = .slice a n20 c) → (∃ a c, f' 21 = .slice a n21 c) → K (frA 226 f') W) :
    Code.wp Tryz.prog (lvFst (ptB 11)) (Exit.then K Q) (frA 226 f) W := by
  obtain ⟨⟨a14, k14, s14⟩, ⟨a15, k15, s15⟩, ⟨a16, k16, s16⟩, ⟨a17, k17, s17⟩, ⟨a18, k18, s18⟩, ⟨a19, k19, s19⟩, ⟨a20, k20, s20⟩, ⟨a21, k21, s21⟩⟩ := hn
  have HK := Lib.hid hK
  clear hK
  have e1 : ((n15 : Int) + (n16 : Int)) = (n14 : Int) := by omega
  have e2 : ((n17 : Int) + (n18 : Int)) = (n14 : Int) := by omega
  have e3 : ((n17 : Int) - (n15 : Int)) = (n19 : Int) := by omega
  show Code.wp _ _ _ { tmps := #[f 0, f 1, f 2, f 3, f 4, f 5, f 6, f 7, f 8, f 9, f 10, f 11, f 12, f 13, f 14, f 15, f 16, f 17, f 18, f 19, f 20, f 21, f 22, f 23, f 24, f 25, f 26, f 27, f 28, f 29, f 30, f 31, f 32, f 33, f 34, f 35, f 36, f 37, f 38, f 39, f 40, f 41, f 42, f 43, f 44, f 45, f 46, f 47, f 48, f 49, f 50, f 51, f 52, f 53, f 54, f 55, f 56, f 57, f 58, f 59, f 60, f 61, f 62, f 63, f 64, f 65, f 66, f 67, f 68, f 69, f 70, f 71, f 72, f 73, f 74, f 75, f 76, f 77, f 78, f 79, f 80, f 81, f 82, f 83, f 84, f 85, f 86, f 87, f 88, f 89, f 90, f 91, f 92, f 93, f 94, f 95, f 96, f 97, f 98, f 99, f 100, f 101, f 102, f 103, f 104, f 105, f 106, f 107, f 108, f 109, f 110, f 111, f 112, f 113, f 114, f 115, f 116, f 117, f 118, f 119, f 120, f 121, f 122, f 123, f 124, f 125, f 126, f 127, f 128, f 129, f 130, f 131, f 132, f 133, f 134, f 135, f 136, f 137, f 138, f 139, f 140, f 141, f 142, f 143, f 144, f 145, f 146, f 147, f 148, f 149, f 150, f 151, f 152, f 153, f 154, f 155, f 156, f 157, f 158, f 159, f 160, f 161, f 162, f 163, f 164, f 165, f 166, f 167, f 168, f 169, f 170, f 171, f 172, f 173, f 174, f 175, f 176, f 177, f 178, f 179, f 180, f 181, f 182, f 183, f 184, f 185, f 186, f 187, f 188, f 189, f 190, f 191, f 192, f 193, f 194, f 195, f 196, f 197, f 198, f 199, f 200, f 201, f 202, f 203, f 204, f 205, f 206, f 207, f 208, f 209, f 210, f 211, f 212, f 213, f 214, f 215, f 216, f 217, f 218, f 219, f 220, f 221, f 222, f 223, f 224, f 225], defers := [] } _
  rw [s14, s15, s16, s17, s18, s19, s20, s21]
  clear s14 s15 s16 s17 s18 s19 s20 s21 c1 c2 c3
  conv => arg 2; whnf
  go_wp2_with fail
  refine cut_use (n := 226) (K := K) _ rfl ?_
  exact HK.out _ (kp_mk rfl) ⟨_, _, rfl⟩ ⟨_, _, rfl⟩ ⟨_, _, rfl⟩
set_option maxRecDepth 100000 in
set_option maxHeartbeats 4000000 in
theorem pt12 {K : Act → World → Prop} {Q : Exit → Act → World → Prop} (W : World) (f : Nat → Value) (n19 n20 n21 : Nat) (hb : n19 ≤ 10000 ∧ n20 ≤ 10000) (h19 : ∃ a c, f 19 = .slice a n19 c) (h20 : ∃ a c, f 20 = .slice a n20 c) (h21 : ∃ a c, f 21 = .slice a n21 c)
    (hK : ∀ f', Kp kpD f f' → (∃ a c, f' 19 = .slice a n19 c) → (∃ a c, f' 21 = .slice a n21 c) → f' 22 = .int .i64 ((n19 + n20 : Nat) : Int) → K (frA 226 f') W) :
    Code.wp Tryz.prog (lvFst (ptB 12)) (Exit.then K Q) (frA 226 f) W := by
  obtain ⟨a19, k19, s19⟩ := h19
  obtain ⟨a20, k20, s20⟩ := h20
  obtain ⟨a21, k21, s21⟩ := h21
  have HK := Lib.hid hK
  clear hK
  show Code.wp _ _ _ { tmps := #[f 0, f 1, f 2, f 3, f 4, f 5, f 6, f 7, f 8, f 9, f 10, f 11, f 12, f 13, f 14, f 15, f 16, f 17, f 18, f 19, f 20, f 21, f 22, f 23, f 24, f 25, f 26, f 27, f 28, f 29, f 30, f 31, f 32, f 33, f 34, f 35, f 36, f 37, f 38, f 39, f 40, f 41, f 42, f 43, f 44, f 45, f 46, f 47, f 48, f 49, f 50, f 51, f 52, f 53, f 54, f 55, f 56, f 57, f 58, f 59, f 60, f 61, f 62, f 63, f 64, f 65, f 66, f 67, f 68, f 69, f 70, f 71, f 72, f 73, f 74, f 75, f 76, f 77, f 78, f 79, f 80, f 81, f 82, f 83, f 84, f 85, f 86, f 87, f 88, f 89, f 90, f 91, f 92, f 93, f 94, f 95, f 96, f 97, f 98, f 99, f 100, f 101, f 102, f 103, f 104, f 105, f 106, f 107, f 108, f 109, f 110, f 111, f 112, f 113, f 114, f 115, f 116, f 117, f 118, f 119, f 120, f 121, f 122, f 123, f 124, f 125, f 126, f 127, f 128, f 129, f 130, f 131, f 132, f 133, f 134, f 135, f 136, f 137, f 138, f 139, f 140, f 141, f 142, f 143, f 144, f 145, f 146, f 147, f 148, f 149, f 150, f 151, f 152, f 153, f 154, f 155, f 156, f 157, f 158, f 159, f 160, f 161, f 162, f 163, f 164, f 165, f 166, f 167, f 168, f 169, f 170, f 171, f 172, f 173, f 174, f 175, f 176, f 177, f 178, f 179, f 180, f 181, f 182, f 183, f 184, f 185, f 186, f 187, f 188, f 189, f 190, f 191, f 192, f 193, f 194, f 195, f 196, f 197, f 198, f 199, f 200, f 201, f 202, f 203, f 204, f 205, f 206, f 207, f 208, f 209, f 210, f 211, f 212, f 213, f 214, f 215, f 216, f 217, f 218, f 219, f 220, f 221, f 222, f 223, f 224, f 225], defers := [] } _
  rw [s19, s20, s21]
  clear s19 s20 s21
  conv => arg 2; whnf
  go_wp2_with fail
  refine cut_use (n := 226) (K := K) _ rfl ?_
  exact HK.out _ (kp_mk rfl) ⟨_, _, rfl⟩ ⟨_, _, rfl⟩ (by show Value.int .i64 _ = _; first | rfl | go_num | (congr 1; omega))
set_option maxRecDepth 100000 in
set_option maxHeartbeats 4000000 in
theorem pt13 {K : Act → World → Prop} {Q : Exit → Act → World → Prop} (W : World) (f : Nat → Value) (n19 n20 n21 : Nat) (a b : Int) (h2 : f 2 = .int .i64 a) (h3 : f 3 = .int .i64 b) (h19 : ∃ a c, f 19 = .slice a n19 c) (h21 : ∃ a c, f 21 = .slice a n21 c) (h22 : f 22 = .int .i64 ((n19 + n20 : Nat) : Int))
    (hK : ∀ f', Kp [5, 8, 11] f f' → (∃ a c, f' 21 = .slice a n21 c) → f' 22 = .int .i64 ((if a = b then n19 else n19 + n20 : Nat) : Int) → K (frA 226 f') W) :
    Code.wp Tryz.prog (lvFst (ptB 13)) (Exit.then K Q) (frA 226 f) W := by
  obtain ⟨a19, k19, s19⟩ := h19
  obtain ⟨a21, k21, s21⟩ := h21
  have HK := Lib.hid hK
  clear hK
  show Code.wp _ _ _ { tmps := #[f 0, f 1, f 2, f 3, f 4, f 5, f 6, f 7, f 8, f 9, f 10, f 11, f 12, f 13, f 14, f 15, f 16, f 17, f 18, f 19, f 20, f 21, f 22, f 23, f 24, f 25, f 26, f 27, f 28, f 29, f 30, f 31, f 32, f 33, f 34, f 35, f 36, f 37, f 38, f 39, f 40, f 41, f 42, f 43, f 44, f 45, f 46, f 47, f 48, f 49, f 50, f 51, f 52, f 53, f 54, f 55, f 56, f 57, f 58, f 59, f 60, f 61, f 62, f 63, f 64, f 65, f 66, f 67, f 68, f 69, f 70, f 71, f 72, f 73, f 74, f 75, f 76, f 77, f 78, f 79, f 80, f 81, f 82, f 83, f 84, f 85, f 86, f 87, f 88, f 89, f 90, f 91, f 92, f 93, f 94, f 95, f 96, f 97, f 98, f 99, f 100, f 101, f 102, f 103, f 104, f 105, f 106, f 107, f 108, f 109, f 110, f 111, f 112, f 113, f 114, f 115, f 116, f 117, f 118, f 119, f 120, f 121, f 122, f 123, f 124, f 125, f 126, f 127, f 128, f 129, f 130, f 131, f 132, f 133, f 134, f 135, f 136, f 137, f 138, f 139, f 140, f 141, f 142, f 143, f 144, f 145, f 146, f 147, f 148, f 149, f 150, f 151, f 152, f 153, f 154, f 155, f 156, f 157, f 158, f 159, f 160, f 161, f 162, f 163, f 164, f 165, f 166, f 167, f 168, f 169, f 170, f 171, f 172, f 173, f 174, f 175, f 176, f 177, f 178, f 179, f 180, f 181, f 182, f 183, f 184, f 185, f 186, f 187, f 188, f 189, f 190, f 191, f 192, f 193, f 194, f 195, f 196, f 197, f 198, f 199, f 200, f 201, f 202, f 203, f 204, f 205, f 206, f 207, f 208, f 209, f 210, f 211, f 212, f 213, f 214, f 215, f 216, f 217, f 218, f 219, f 220, f 221, f 222, f 223, f 224, f 225], defers := [] } _
  rw [h2, h3, s19, s21, h22]
  clear h2 h3 s19 s21 h22
  conv => arg 2; whnf
  by_cases hab : a = b
  · subst hab
    go_wp2_with fail
    refine cut_use (n := 226) (K := K) _ rfl ?_
    exact HK.out _ (kp_mk rfl) ⟨_, _, rfl⟩ (by first | (rw [if_pos rfl]; rfl) | (rw [if_pos trivial]; rfl) | simp)
  · have hab' : (a == b) = false := by simpa using hab
    go_wp2_with fail
    refine cut_use (n := 226) (K := K) _ rfl ?_
    exact HK.out _ (kp_mk rfl) ⟨_, _, rfl⟩ (by rw [if_neg hab]; rfl)
set_option maxRecDepth 100000 in
set_option maxHeartbeats 4000000 in
theorem pt14 {K : Act → World → Prop} {Q : Exit → Act → World → Prop} (W : World) (f : Nat → Value) (n21 : Nat) (h21 : ∃ a c, f 21 = .slice a n21 c) (h22 : f 22 = .int .i64 (n21 : Int))
    (hK : ∀ f', Kp [5, 8, 11] f f' → K (frA 226 f') W) :
    Code.wp Tryz.prog (lvFst (ptB 14)) (Exit.then K Q) (frA 226 f) W := by
  obtain ⟨a21, k21, s21⟩ := h21
  have HK := Lib.hid hK
  clear hK
  show Code.wp _ _ _ { tmps := #[f 0, f 1, f 2, f 3, f 4, f 5, f 6, f 7, f 8, f 9, f 10, f 11, f 12, f 13, f 14, f 15, f 16, f 17, f 18, f 19, f 20, f 21, f 22, f 23, f 24, f 25, f 26, f 27, f 28, f 29, f 30, f 31, f 32, f 33, f 34, f 35, f 36, f 37, f 38, f 39, f 40, f 41, f 42, f 43, f 44, f 45, f 46, f 47, f 48, f 49, f 50, f 51, f 52, f 53, f 54, f 55, f 56, f 57, f 58, f 59, f 60, f 61, f 62, f 63, f 64, f 65, f 66, f 67, f 68, f 69, f 70, f 71, f 72, f 73, f 74, f 75, f 76, f 77, f 78, f 79, f 80, f 81, f 82, f 83, f 84, f 85, f 86, f 87, f 88, f 89, f 90, f 91, f 92, f 93, f 94, f 95, f 96, f 97, f 98, f 99, f 100, f 101, f 102, f 103, f 104, f 105, f 106, f 107, f 108, f 109, f 110, f 111, f 112, f 113, f 114, f 115, f 116, f 117, f 118, f 119, f 120, f 121, f 122, f 123, f 124, f 125, f 126, f 127, f 128, f 129, f 130, f 131, f 132, f 133, f 134, f 135, f 136, f 137, f 138, f 139, f 140, f 141, f 142, f 143, f 144, f 145, f 146, f 147, f 148, f 149, f 150, f 151, f 152, f 153, f 154, f 155, f 156, f 157, f 158, f 159, f 160, f 161, f 162, f 163, f 164, f 165, f 166, f 167, f 168, f 169, f 170, f 171, f 172, f 173, f 174, f 175, f 176, f 177, f 178, f 179, f 180, f 181, f 182, f 183, f 184, f 185, f 186, f 187, f 188, f 189, f 190, f 191, f 192, f 193, f 194, f 195, f 196, f 197, f 198, f 199, f 200, f 201, f 202, f 203, f 204, f 205, f 206, f 207, f 208, f 209, f 210, f 211, f 212, f 213, f 214, f 215, f 216, f 217, f 218, f 219, f 220, f 221, f 222, f 223, f 224, f 225], defers := [] } _
  rw [s21, h22]
  clear s21 h22
  conv => arg 2; whnf
  go_wp2_with fail
  refine cut_use (n := 226) (K := K) _ rfl ?_
  exact HK.out _ (kp_mk rfl)
end Go.Proofs.YtefepfiijoafbaaGreat
