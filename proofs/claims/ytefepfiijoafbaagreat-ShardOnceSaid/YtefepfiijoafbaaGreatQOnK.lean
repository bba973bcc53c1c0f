/- ShardOnce: a copy, a command, the command again. ShardOnce: the command comes twice. ShardOnce: behind a command that is no final all commits are as they were. ShardOnce: how a start was final. ShardOnce: behind a final what was staged is seen, or is not: the loop's pieces. ShardOnce: behind a final what was staged is seen, or is not: the test. -/
import Derived.Deep.QuietTactic
import Derived.Test.YtefepfiijoafbaaGreatQOnD
import Derived.Test.YtefepfiijoafbaaGreatQQuiet
namespace Go.Proofs.YtefepfiijoafbaaGreat
open Go.RowKit Go.Shelf Go.Maps
attribute [local go_sem] Oper.semAt_some
attribute [local go_sem ↓] Go.wp_at_zero Go.wp_at_succ
attribute [local irreducible] wpQuiet
set_option linter.unusedVariables false
set_option linter.unusedSimpArgs false

theorem copy_bd (W : World) (R : Nat → Prop) (p : Nat) (s : SS) (N : Nat) (h : IsState W R p s N) (hF : s.Fine N) (hN : N ≤ 100000) :
    Calls Tryz.prog 16 #[.pointer (some ⟨p, 0, none⟩)] W fun e w' => ∃ p', e = .returned (.pointer (some ⟨p', 0, none⟩)) ∧ IsState w' (fun k => W.heap.size ≤ k ∧ k < w'.heap.size) p' s N ∧ Fr N0 W w' :=
  (sCopy_any W R p s N h hF hN).mono fun e w' ⟨p', h1, h2, h3⟩ => ⟨p', h1, h2.bound, h3⟩
set_option maxRecDepth 100000 in
set_option maxHeartbeats 4000000 in
theorem onR18 {K : Act → World → Prop} {Q : Exit → Act → World → Prop} (W : World) (R : Nat → Prop) (p bs N : Nat) (s : SS) (f : Nat → Value) (Ds : List Nat) (hst : IsState W R p s N) (hF : s.Fine N) (hN : N ≤ 100000)
    (hbs : W.heap[bs]? = some (.cells #[.pointer (some ⟨p, 0, none⟩)] 27 (0, 0))) (h3 : f 3 = .pointer (some ⟨bs, 0, none⟩))
    (hK : ∀ f' W' pw, Keep [0, 2, 3, 4, 5, 6, 7] f f' → f' 10 = .pointer (some ⟨pw, 0, none⟩) → IsState W' (fun k => W.heap.size ≤ k ∧ k < W'.heap.size) pw s N → Fr N0 W W' → K (frD 200 f' Ds) W') :
    Code.wp Tryz.prog (lvFst (onC 4)) (Exit.then K Q) (frD 200 f Ds) W := by
  have hc := copy_bd W R p s N hst hF hN
  have cs := cell_of_one hbs
  have HK := Lib.hid hK; have HC := Lib.hid hc; have H3 := Lib.hid h3
  clear hK hc hst hF hbs
  show Code.wp _ _ _ { tmps := #[f 0, f 1, f 2, f 3, f 4, f 5, f 6, f 7, f 8, f 9, f 10, f 11, f 12, f 13, f 14, f 15, f 16, f 17, f 18, f 19, f 20, f 21, f 22, f 23, f 24, f 25, f 26, f 27, f 28, f 29, f 30, f 31, f 32, f 33, f 34, f 35, f 36, f 37, f 38, f 39, f 40, f 41, f 42, f 43, f 44, f 45, f 46, f 47, f 48, f 49, f 50, f 51, f 52, f 53, f 54, f 55, f 56, f 57, f 58, f 59, f 60, f 61, f 62, f 63, f 64, f 65, f 66, f 67, f 68, f 69, f 70, f 71, f 72, f 73, f 74, f 75, f 76, f 77, f 78, f 79, f 80, f 81, f 82, f 83, f 84, f 85, f 86, f 87, f 88, f 89, f 90, f 91, f 92, f 93, f 94, f 95, f 96, f 97, f 98, f 99, f 100, f 101, f 102, f 103, f 104, f 105, f 106, f 107, f 108, f 109, f 110, f 111, f 112, f 113, f 114, f 115, f 116, f 117, f 118, f 119, f 120, f 121, f 122, f 123, f 124, f 125, f 126, f 127, f 128, f 129, f 130, f 131, f 132, f 133, f 134, f 135, f 136, f 137, f 138, f 139, f 140, f 141, f 142, f 143, f 144, f 145, f 146, f 147, f 148, f 149, f 150, f 151, f 152, f 153, f 154, f 155, f 156, f 157, f 158, f 159, f 160, f 161, f 162, f 163, f 164, f 165, f 166, f 167, f 168, f 169, f 170, f 171, f 172, f 173, f 174, f 175, f 176, f 177, f 178, f 179, f 180, f 181, f 182, f 183, f 184, f 185, f 186, f 187, f 188, f 189, f 190, f 191, f 192, f 193, f 194, f 195, f 196, f 197, f 198, f 199], defers := marks Ds } _
  rw [h3]
  clear h3
  conv => arg 2; whnf
  go_wp2_with fail
  refine HC.out.mono ?_
  rintro e w2 ⟨pw, rfl, hs2, hf2⟩
  have HS2 := Lib.hid hs2; have HF2 := Lib.hid hf2
  clear hs2 hf2 cs
  go_wp2_with fail
  refine cut_useD (n := 200) (K := K) _ rfl ?_
  exact HK.out _ w2 pw (keep_mk (by simp only [List.map_cons, List.map_nil, H3.out]; rfl)) rfl HS2.out HF2.out
set_option maxRecDepth 100000 in
set_option maxHeartbeats 4000000 in
theorem onR21 {K : Act → World → Prop} {Q : Exit → Act → World → Prop} (W : World) (R : Nat → Prop) (p bs N : Nat) (s : SS) (f : Nat → Value) (Ds : List Nat) (hst : IsState W R p s N) (hF : s.Fine N) (hN : N ≤ 100000)
    (hbs : W.heap[bs]? = some (.cells #[.pointer (some ⟨p, 0, none⟩)] 27 (0, 0))) (h3 : f 3 = .pointer (some ⟨bs, 0, none⟩))
    (hK : ∀ f' W' pw, Keep [0, 2, 3, 4, 5, 6, 7, 10] f f' → f' 12 = .pointer (some ⟨pw, 0, none⟩) → IsState W' (fun k => W.heap.size ≤ k ∧ k < W'.heap.size) pw s N → Fr N0 W W' → K (frD 200 f' Ds) W') :
    Code.wp Tryz.prog (lvFst (onC 7)) (Exit.then K Q) (frD 200 f Ds) W := by
  have hc := copy_bd W R p s N hst hF hN
  have cs := cell_of_one hbs
  have HK := Lib.hid hK; have HC := Lib.hid hc; have H3 := Lib.hid h3
  clear hK hc hst hF hbs
  show Code.wp _ _ _ { tmps := #[f 0, f 1, f 2, f 3, f 4, f 5, f 6, f 7, f 8, f 9, f 10, f 11, f 12, f 13, f 14, f 15, f 16, f 17, f 18, f 19, f 20, f 21, f 22, f 23, f 24, f 25, f 26, f 27, f 28, f 29, f 30, f 31, f 32, f 33, f 34, f 35, f 36, f 37, f 38, f 39, f 40, f 41, f 42, f 43, f 44, f 45, f 46, f 47, f 48, f 49, f 50, f 51, f 52, f 53, f 54, f 55, f 56, f 57, f 58, f 59, f 60, f 61, f 62, f 63, f 64, f 65, f 66, f 67, f 68, f 69, f 70, f 71, f 72, f 73, f 74, f 75, f 76, f 77, f 78, f 79, f 80, f 81, f 82, f 83, f 84, f 85, f 86, f 87, f 88, f 89, f 90, f 91, f 92, f 93, f 94, f 95, f 96, f 97, f 98, f 99, f 100, f 101, f 102, f 103, f 104, f 105, f 106, f 107, f 108, f 109, f 110, f 111, f 112, f 113, f 114, f 115, f 116, f 117, f 118, f 119, f 120, f 121, f 122, f 123, f 124, f 125, f 126, f 127, f 128, f 129, f 130, f 131, f 132, f 133, f 134, f 135, f 136, f 137, f 138, f 139, f 140, f 141, f 142, f 143, f 144, f 145, f 146, f 147, f 148, f 149, f 150, f 151, f 152, f 153, f 154, f 155, f 156, f 157, f 158, f 159, f 160, f 161, f 162, f 163, f 164, f 165, f 166, f 167, f 168, f 169, f 170, f 171, f 172, f 173, f 174, f 175, f 176, f 177, f 178, f 179, f 180, f 181, f 182, f 183, f 184, f 185, f 186, f 187, f 188, f 189, f 190, f 191, f 192, f 193, f 194, f 195, f 196, f 197, f 198, f 199], defers := marks Ds } _
  rw [h3]
  clear h3
  conv => arg 2; whnf
  go_wp2_with fail
  refine HC.out.mono ?_
  rintro e w2 ⟨pw, rfl, hs2, hf2⟩
  have HS2 := Lib.hid hs2; have HF2 := Lib.hid hf2
  clear hs2 hf2 cs
  go_wp2_with fail
  refine cut_useD (n := 200) (K := K) _ rfl ?_
  exact HK.out _ w2 pw (keep_mk (by simp only [List.map_cons, List.map_nil, H3.out]; rfl)) rfl HS2.out HF2.out
set_option maxRecDepth 100000 in
set_option maxHeartbeats 4000000 in
theorem onR19 {K : Act → World → Prop} {Q : Exit → Act → World → Prop} (w W : World) (R : Nat → Prop) (p bs bo N : Nat) (s : SS) (o : Op) (V : OpS) (f : Nat → Value) (Ds : List Nat) (hL : Live w W R p s N) (hN : N ≤ 100000) (ho : o.wf) (hI : OpIs w o V) (hk : o.kind ≠ 4 ∧ o.kind ≠ 5 ∧ o.kind ≠ 6)
    (hbs : W.heap[bs]? = some (.cells #[.pointer (some ⟨p, 0, none⟩)] 27 (0, 0))) (hbo : OpBox W bo o V) (h3 : f 3 = .pointer (some ⟨bs, 0, none⟩)) (h6 : f 6 = .pointer (some ⟨bo, 0, none⟩))
    (hK : ∀ f' W' R', Keep [0, 2, 3, 4, 5, 6, 7, 10] f f' → f' 11 = .int .i64 (sApply s o).2 → Live w W' R' p (sApply s o).1 (N + 1) → (∀ k, R' k → R k ∨ W.heap.size ≤ k) → Fr R W W' → K (frD 200 f' Ds) W') :
    Code.wp Tryz.prog (lvFst (onC 5)) (Exit.then K Q) (frD 200 f Ds) W := by
  obtain ⟨b, hw⟩ := hI.ws
  have hc := live_apply hL hN o ho V b (Wrs.fr0 hw hL.2.2.2) hk
  rw [opCells_eq] at hc
  have cs := cell_of_one hbs
  have mb := (box_cells hbo).1
  rw [opCells_eq] at mb
  have HK := Lib.hid hK; have HC := Lib.hid hc; have H3 := Lib.hid h3; have H6 := Lib.hid h6
  clear hK hc hL hbs hbo ho hI hw hk
  obtain ⟨A, hA⟩ : ∃ A, sApply s o = A := ⟨_, rfl⟩
  rw [hA] at HK HC
  clear hA
  obtain ⟨kd, st, cm, ws, ⟨sp, sy, sl, se, sm, so, sr, sc⟩, pr, at_, nt, np⟩ := o
  obtain ⟨wa, wc, ta, tc, pa', pc⟩ := V
  simp only at mb HC
  obtain ⟨nw, hnw⟩ : ∃ n, ws.length = n := ⟨_, rfl⟩
  simp only [hnw] at mb HC
  clear hnw
  show Code.wp _ _ _ { tmps := #[f 0, f 1, f 2, f 3, f 4, f 5, f 6, f 7, f 8, f 9, f 10, f 11, f 12, f 13, f 14, f 15, f 16, f 17, f 18, f 19, f 20, f 21, f 22, f 23, f 24, f 25, f 26, f 27, f 28, f 29, f 30, f 31, f 32, f 33, f 34, f 35, f 36, f 37, f 38, f 39, f 40, f 41, f 42, f 43, f 44, f 45, f 46, f 47, f 48, f 49, f 50, f 51, f 52, f 53, f 54, f 55, f 56, f 57, f 58, f 59, f 60, f 61, f 62, f 63, f 64, f 65, f 66, f 67, f 68, f 69, f 70, f 71, f 72, f 73, f 74, f 75, f 76, f 77, f 78, f 79, f 80, f 81, f 82, f 83, f 84, f 85, f 86, f 87, f 88, f 89, f 90, f 91, f 92, f 93, f 94, f 95, f 96, f 97, f 98, f 99, f 100, f 101, f 102, f 103, f 104, f 105, f 106, f 107, f 108, f 109, f 110, f 111, f 112, f 113, f 114, f 115, f 116, f 117, f 118, f 119, f 120, f 121, f 122, f 123, f 124, f 125, f 126, f 127, f 128, f 129, f 130, f 131, f 132, f 133, f 134, f 135, f 136, f 137, f 138, f 139, f 140, f 141, f 142, f 143, f 144, f 145, f 146, f 147, f 148, f 149, f 150, f 151, f 152, f 153, f 154, f 155, f 156, f 157, f 158, f 159, f 160, f 161, f 162, f 163, f 164, f 165, f 166, f 167, f 168, f 169, f 170, f 171, f 172, f 173, f 174, f 175, f 176, f 177, f 178, f 179, f 180, f 181, f 182, f 183, f 184, f 185, f 186, f 187, f 188, f 189, f 190, f 191, f 192, f 193, f 194, f 195, f 196, f 197, f 198, f 199], defers := marks Ds } _
  rw [h3, h6]
  clear h3 h6
  conv => arg 2; whnf
  go_wp2_with fail
  refine HC.out.mono ?_
  rintro e w2 ⟨rfl, ⟨R2, hL2, hR2⟩, hf2⟩
  have HL2 := Lib.hid hL2; have HR2 := Lib.hid hR2; have HF2 := Lib.hid hf2
  clear hL2 hR2 hf2 cs mb
  go_wp2_with fail
  refine cut_useD (n := 200) (K := K) _ rfl ?_
  exact HK.out _ w2 R2 (keep_mk (by simp only [List.map_cons, List.map_nil, H3.out, H6.out]; rfl)) rfl HL2.out HR2.out HF2.out
set_option maxRecDepth 100000 in
set_option maxHeartbeats 4000000 in
theorem onR20 {K : Act → World → Prop} {Q : Exit → Act → World → Prop} (W : World) (e : Int) (f : Nat → Value) (Ds : List Nat) (h11 : f 11 = .int .i64 e)
    (hK : e = 0 → ∀ f', Keep [0, 2, 3, 4, 5, 6, 7, 10] f f' → K (frD 200 f' Ds) W) (hQ : e ≠ 0 → ∀ f', Keep [0, 2, 3, 4, 5] f f' → Q (.exit 1) (frD 200 f' Ds) W) :
    Code.wp Tryz.prog (lvFst (onC 6)) (Exit.then K Q) (frD 200 f Ds) W := by
  have HK := Lib.hid hK; have HQ := Lib.hid hQ
  clear hK hQ
  show Code.wp _ _ _ { tmps := #[f 0, f 1, f 2, f 3, f 4, f 5, f 6, f 7, f 8, f 9, f 10, f 11, f 12, f 13, f 14, f 15, f 16, f 17, f 18, f 19, f 20, f 21, f 22, f 23, f 24, f 25, f 26, f 27, f 28, f 29, f 30, f 31, f 32, f 33, f 34, f 35, f 36, f 37, f 38, f 39, f 40, f 41, f 42, f 43, f 44, f 45, f 46, f 47, f 48, f 49, f 50, f 51, f 52, f 53, f 54, f 55, f 56, f 57, f 58, f 59, f 60, f 61, f 62, f 63, f 64, f 65, f 66, f 67, f 68, f 69, f 70, f 71, f 72, f 73, f 74, f 75, f 76, f 77, f 78, f 79, f 80, f 81, f 82, f 83, f 84, f 85, f 86, f 87, f 88, f 89, f 90, f 91, f 92, f 93, f 94, f 95, f 96, f 97, f 98, f 99, f 100, f 101, f 102, f 103, f 104, f 105, f 106, f 107, f 108, f 109, f 110, f 111, f 112, f 113, f 114, f 115, f 116, f 117, f 118, f 119, f 120, f 121, f 122, f 123, f 124, f 125, f 126, f 127, f 128, f 129, f 130, f 131, f 132, f 133, f 134, f 135, f 136, f 137, f 138, f 139, f 140, f 141, f 142, f 143, f 144, f 145, f 146, f 147, f 148, f 149, f 150, f 151, f 152, f 153, f 154, f 155, f 156, f 157, f 158, f 159, f 160, f 161, f 162, f 163, f 164, f 165, f 166, f 167, f 168, f 169, f 170, f 171, f 172, f 173, f 174, f 175, f 176, f 177, f 178, f 179, f 180, f 181, f 182, f 183, f 184, f 185, f 186, f 187, f 188, f 189, f 190, f 191, f 192, f 193, f 194, f 195, f 196, f 197, f 198, f 199], defers := marks Ds } _
  rw [h11]
  clear h11
  conv => arg 2; whnf
  by_cases he : e = 0
  · subst he
    go_wp2_with fail
    refine cut_useD (n := 200) (K := K) _ rfl ?_
    exact HK.out (by simp) _ (keep_mk rfl)
  · have hb : ((e : Int) != 0) = true := by simpa using he
    have HE := Lib.hid he
    clear he
    go_wp2_with fail
    refine cut_useQD (n := 200) (Q := Q) (e := .exit 1) _ rfl ?_
    exact HQ.out HE.out _ (keep_mk rfl)
end Go.Proofs.YtefepfiijoafbaaGreat
namespace Go.Proofs.YtefepfiijoafbaaGreat
open Go.RowKit Go.Shelf Go.Maps
attribute [local go_sem] Oper.semAt_some
attribute [local go_sem ↓] Go.wp_at_zero Go.wp_at_succ
attribute [local irreducible] wpQuiet
set_option linter.unusedVariables false
set_option linter.unusedSimpArgs false

set_option maxRecDepth 100000 in
set_option maxHeartbeats 4000000 in
theorem onR22 {K : Act → World → Prop} {Q : Exit → Act → World → Prop} (w W : World) (R Ra : Nat → Prop) (p pa bs bo N M : Nat) (s : SS) (o : Op) (V : OpS) (f : Nat → Value) (Ds : List Nat) (hL : Live w W R p s N) (hN : N ≤ 100000) (ho : o.wf) (hI : OpIs w o V) (hk : o.kind ≠ 4 ∧ o.kind ≠ 5 ∧ o.kind ≠ 6)
    (ha : IsState W Ra pa s M) (hap : ∀ k, Ra k → ¬ R k) (hsame : sApply s o = (s, 0)) (hbsR : ¬ R bs)
    (hbs : W.heap[bs]? = some (.cells #[.pointer (some ⟨p, 0, none⟩)] 27 (0, 0))) (hbo : OpBox W bo o V) (h3 : f 3 = .pointer (some ⟨bs, 0, none⟩)) (h6 : f 6 = .pointer (some ⟨bo, 0, none⟩)) (h12 : f 12 = .pointer (some ⟨pa, 0, none⟩))
    (hK : ∀ f' W' R', Keep [0, 2, 3, 4, 5, 6, 7, 10] f f' → Live w W' R' p s (N + 1) → (∀ k, R' k → R k ∨ W.heap.size ≤ k) → Fr R W W' → K (frD 200 f' Ds) W') :
    Code.wp Tryz.prog (lvFst (onC 8)) (Exit.then K Q) (frD 200 f Ds) W := by
  obtain ⟨b, hw⟩ := hI.ws
  have hc := live_apply hL hN o ho V b (Wrs.fr0 hw hL.2.2.2) hk
  rw [opCells_eq, hsame] at hc
  have hFs := hL.2.1
  have cs := cell_of_one hbs
  have lbs := lt_of_block hbs
  have mb := (box_cells hbo).1
  rw [opCells_eq] at mb
  have HK := Lib.hid hK; have HC := Lib.hid hc; have H3 := Lib.hid h3; have H6 := Lib.hid h6; have HA := Lib.hid ha; have HAP := Lib.hid hap; have HBS := Lib.hid hbs; have HFS := Lib.hid hFs; have HBR := Lib.hid hbsR
  clear hK hc hL hbs hbo ho hI hw hk hsame ha hap hFs hbsR
  obtain ⟨kd, st, cm, ws, ⟨sp, sy, sl, se, sm, so, sr, sc⟩, pr, at_, nt, np⟩ := o
  obtain ⟨wa, wc, ta, tc, pa', pc⟩ := V
  simp only at mb HC
  obtain ⟨nw, hnw⟩ : ∃ n, ws.length = n := ⟨_, rfl⟩
  simp only [hnw] at mb HC
  clear hnw
  show Code.wp _ _ _ { tmps := #[f 0, f 1, f 2, f 3, f 4, f 5, f 6, f 7, f 8, f 9, f 10, f 11, f 12, f 13, f 14, f 15, f 16, f 17, f 18, f 19, f 20, f 21, f 22, f 23, f 24, f 25, f 26, f 27, f 28, f 29, f 30, f 31, f 32, f 33, f 34, f 35, f 36, f 37, f 38, f 39, f 40, f 41, f 42, f 43, f 44, f 45, f 46, f 47, f 48, f 49, f 50, f 51, f 52, f 53, f 54, f 55, f 56, f 57, f 58, f 59, f 60, f 61, f 62, f 63, f 64, f 65, f 66, f 67, f 68, f 69, f 70, f 71, f 72, f 73, f 74, f 75, f 76, f 77, f 78, f 79, f 80, f 81, f 82, f 83, f 84, f 85, f 86, f 87, f 88, f 89, f 90, f 91, f 92, f 93, f 94, f 95, f 96, f 97, f 98, f 99, f 100, f 101, f 102, f 103, f 104, f 105, f 106, f 107, f 108, f 109, f 110, f 111, f 112, f 113, f 114, f 115, f 116, f 117, f 118, f 119, f 120, f 121, f 122, f 123, f 124, f 125, f 126, f 127, f 128, f 129, f 130, f 131, f 132, f 133, f 134, f 135, f 136, f 137, f 138, f 139, f 140, f 141, f 142, f 143, f 144, f 145, f 146, f 147, f 148, f 149, f 150, f 151, f 152, f 153, f 154, f 155, f 156, f 157, f 158, f 159, f 160, f 161, f 162, f 163, f 164, f 165, f 166, f 167, f 168, f 169, f 170, f 171, f 172, f 173, f 174, f 175, f 176, f 177, f 178, f 179, f 180, f 181, f 182, f 183, f 184, f 185, f 186, f 187, f 188, f 189, f 190, f 191, f 192, f 193, f 194, f 195, f 196, f 197, f 198, f 199], defers := marks Ds } _
  rw [h3, h6, h12]
  clear h3 h6 h12
  conv => arg 2; whnf
  go_wp2_with fail
  refine HC.out.mono ?_
  rintro e w2 ⟨rfl, ⟨R2, hL2, hR2⟩, hf2⟩
  have cs2 : w2.cell? ⟨bs, 0, none⟩ = some (.pointer (some ⟨p, 0, none⟩)) := cell_of_one ((hf2.at HBR.out lbs).trans HBS.out)
  have hsm := sSame_any w2 Ra R2 pa p s M (N + 1) N (HA.out.fr hf2 fun k h => HAP.out k h) hL2.1 HFS.out hN
  have HL2 := Lib.hid hL2; have HR2 := Lib.hid hR2; have HF2 := Lib.hid hf2; have HSM := Lib.hid hsm
  clear hL2 hR2 hf2 cs mb hsm
  go_wp2_with fail
  refine HSM.out.mono ?_
  rintro e w3 ⟨rfl, hf3⟩
  have HF3 := Lib.hid hf3
  clear hf3 cs2
  go_wp2_with fail
  refine cut_useD (n := 200) (K := K) _ rfl ?_
  exact HK.out _ w3 R2 (keep_mk (by simp only [List.map_cons, List.map_nil, H3.out, H6.out]; rfl)) (HL2.out.fr HF3.out) HR2.out (HF2.out.then0 HF3.out)
end Go.Proofs.YtefepfiijoafbaaGreat
namespace Go.Proofs.YtefepfiijoafbaaGreat
open Go.RowKit Go.Shelf Go.Maps
attribute [local go_sem] Oper.semAt_some
attribute [local go_sem ↓] Go.wp_at_zero Go.wp_at_succ
attribute [local irreducible] wpQuiet
set_option linter.unusedVariables false
set_option linter.unusedSimpArgs false

theorem enters_lists1 (args : Array Value) (w : World) : (callFunc 66 args).run Tryz.prog w = .ok (.enter 66 args) w := enters_of Tryz.func66 (by kernel_rfl) rfl args w
/-- Commits, with what SameCommits wants of them. -/
def CmsRow (W W' : World) (l : PL) (e : Ending) : Prop := ∃ a c ds b, e = .returned (.slice a l.commits.length c) ∧ RowsK CmV.enc 2 W' b (.slice a l.commits.length c) ds ∧ ds.length = l.commits.length ∧ ∀ i (h : i < ds.length) (h' : i < l.commits.length), ds[i].time = l.commits[i].time ∧ ∃ b', Wrs W' b' (.slice ds[i].a ds[i].n ds[i].c) l.commits[i].writes
theorem commits_row (W : World) (R : Nat → Prop) (p : Nat) (q : ByteArray) (l : PL) (N : Nat) (h : IsPL W R p l) (hf : l.Fine q N) (hN : N ≤ 100000) : Calls Tryz.prog 20 #[.pointer (some ⟨p, 0, none⟩)] W fun e w' => CmsRow W w' l e ∧ Fr N0 W w' := by
  refine (commits_any W R p l h hf.size' (by have := hf.commits; omega) (fun c hc => by have := (hf.writes c hc).1; omega)).mono fun e w' ⟨v, ds, he, hrow, hl, hc, hfr⟩ => ⟨?_, hfr⟩
  obtain ⟨a, c, rfl⟩ := slice_of_row hrow
  rw [← hl] at hrow
  obtain ⟨b, -, hr⟩ := rowsK_of_row (enc := CmV.enc) (n := 2) (fun _ => rfl) (by decide) hrow
  rw [hl] at hr
  exact ⟨a, c, ds, b, he, hr, hl, fun i h1 h2 => ⟨(hc i h1 h2).1, by
    obtain ⟨b', -, hb'⟩ := rowsK_of_row (enc := Wr.enc) (n := 8) (fun _ => rfl) (by decide) (hc i h1 h2).2.1
    exact ⟨b', hb'⟩⟩⟩
theorem rowsC_fr0 {w w' : World} {b : Nat} {v : Value} {xs : List CmV} (h : RowsK CmV.enc 2 w b v xs) (hf : Fr N0 w w') : RowsK CmV.enc 2 w' b v xs := RowsK.fr0 (enc := CmV.enc) (n := 2) (fun _ => rfl) h hf
theorem cmsSame_any (W0 W1 W : World) (l : PL) (q : ByteArray) (N : Nat) (hf : l.Fine q N) (hN : N ≤ 100000) (a a' : Option Addr) (c c' b b' : Nat) (ds ds' : List CmV) (hl : ds.length = l.commits.length) (hl' : ds'.length = l.commits.length)
    (hr : RowsK CmV.enc 2 W b (.slice a l.commits.length c) ds) (hr' : RowsK CmV.enc 2 W b' (.slice a' l.commits.length c') ds')
    (hd : ∀ i (h : i < ds.length) (h' : i < l.commits.length), ds[i].time = l.commits[i].time ∧ ∃ b', Wrs W b' (.slice ds[i].a ds[i].n ds[i].c) l.commits[i].writes)
    (hd' : ∀ i (h : i < ds'.length) (h' : i < l.commits.length), ds'[i].time = l.commits[i].time ∧ ∃ b', Wrs W b' (.slice ds'[i].a ds'[i].n ds'[i].c) l.commits[i].writes) :
    Calls Tryz.prog 19 #[.slice a l.commits.length c, .slice a' l.commits.length c'] W fun e w' => e = .returned (.bool true) ∧ Fr N0 W w' :=
  sameCms_any W b b' _ _ ds ds' hr hr' (by omega) (by have := hf.commits; omega) (fun i h h' => (hd i h (by omega)).1.trans (hd' i h' (by omega)).1.symm) fun i h h' W' hf' => by
    obtain ⟨-, b1, h1⟩ := hd i h (by omega)
    obtain ⟨-, b2, h2⟩ := hd' i h' (by omega)
    exact sameWs_any W' b1 b2 _ _ _ (Wrs.fr0 h1 hf') (Wrs.fr0 h2 hf') (by have := (hf.writes _ (List.getElem_mem (show i < l.commits.length by omega))).1; omega)

/-- The loop's invariant: the caller's blocks lie as they lay. -/
def LsI (S0 : Nat → Prop) (W : World) (Z S : Nat → Prop) (pre : List LsEl) (Wx : World) : Prop := (∀ k, S0 k → S k) ∧ SameOn S0 W Wx
theorem lsI_stable (S0 : Nat → Prop) (W : World) : StableZ (LsI S0 W) := fun Z S pre A B h hs hz => ⟨h.1, h.2.trans (SameOn.mono hs fun k hk _ => h.1 k hk)⟩

set_option pp.maxSteps 1000000 in
set_option pp.deepTerms true in
set_option maxRecDepth 100000 in
set_option maxHeartbeats 8000000 in
theorem onR24 {K : Act → World → Prop} {Q : Exit → Act → World → Prop} (W : World) (R Rw : Nat → Prop) (p pw bs bo N M : Nat) (s0 s1 : SS) (o : Op) (V : OpS) (f : Nat → Value) (Ds : List Nat) (hst : IsState W R p s1 N) (hR : ∀ k, R k → k < W.heap.size) (hF : s1.Fine N) (hN : N ≤ 100000)
    (hwas : IsState W Rw pw s0 M) (hRw : ∀ k, Rw k → k < W.heap.size) (hFw : s0.Fine M) (hM : M ≤ 100000) (hRR : ∀ k, R k → ¬ Rw k) (hnb : ¬ Rw bs) (hkeep : o.kind ≠ 3 → ∀ q l, s0.lists q = some l → s1.lists q = some l)
    (hbs : W.heap[bs]? = some (.cells #[.pointer (some ⟨p, 0, none⟩)] 27 (0, 0))) (hbo : OpBox W bo o V) (h3 : f 3 = .pointer (some ⟨bs, 0, none⟩)) (h6 : f 6 = .pointer (some ⟨bo, 0, none⟩)) (h10 : f 10 = .pointer (some ⟨pw, 0, none⟩))
    (hK : o.kind = 3 → ∀ f', Keep [0, 2, 3, 4, 5, 6, 7, 10] f f' → K (frD 200 f' Ds) W)
    (hQ : o.kind ≠ 3 → ∀ f' W' D, Keep [0, 2, 3, 4, 5] f f' → W'.heap[D]? = some (.deferred (some [])) → W.heap.size ≤ D → Fr (fun k => k = bs ∨ R k) W W' → SameOn (fun k => k = bs ∨ R k) W W' → Q (.exit 1) (frD 200 f' (D :: Ds)) W') :
    Code.wp Tryz.prog (lvFst (onC 9)) (Exit.then K Q) (frD 200 f Ds) W := by
  have c0 := (box_cells hbo).1 0
  rw [opCells_eq] at c0
  simp only [List.getElem?_toArray, List.getElem?_cons_zero] at c0
  have HK := Lib.hid hK; have HQ := Lib.hid hQ
  have HST := Lib.hid hst; have HR := Lib.hid hR; have HF := Lib.hid hF; have HWAS := Lib.hid hwas; have HRW := Lib.hid hRw; have HFW := Lib.hid hFw; have HRR := Lib.hid hRR; have HNB := Lib.hid hnb; have HKP := Lib.hid hkeep; have HBS := Lib.hid hbs
  have H3 := Lib.hid h3; have H6 := Lib.hid h6; have H10 := Lib.hid h10
  clear hK hQ hst hR hF hwas hRw hFw hRR hnb hkeep hbs hbo
  obtain ⟨kd, hkd⟩ : ∃ x, o.kind = x := ⟨_, rfl⟩
  rw [hkd] at c0 HK HQ HKP
  clear hkd
  show Code.wp _ _ _ { tmps := #[f 0, f 1, f 2, f 3, f 4, f 5, f 6, f 7, f 8, f 9, f 10, f 11, f 12, f 13, f 14, f 15, f 16, f 17, f 18, f 19, f 20, f 21, f 22, f 23, f 24, f 25, f 26, f 27, f 28, f 29, f 30, f 31, f 32, f 33, f 34, f 35, f 36, f 37, f 38, f 39, f 40, f 41, f 42, f 43, f 44, f 45, f 46, f 47, f 48, f 49, f 50, f 51, f 52, f 53, f 54, f 55, f 56, f 57, f 58, f 59, f 60, f 61, f 62, f 63, f 64, f 65, f 66, f 67, f 68, f 69, f 70, f 71, f 72, f 73, f 74, f 75, f 76, f 77, f 78, f 79, f 80, f 81, f 82, f 83, f 84, f 85, f 86, f 87, f 88, f 89, f 90, f 91, f 92, f 93, f 94, f 95, f 96, f 97, f 98, f 99, f 100, f 101, f 102, f 103, f 104, f 105, f 106, f 107, f 108, f 109, f 110, f 111, f 112, f 113, f 114, f 115, f 116, f 117, f 118, f 119, f 120, f 121, f 122, f 123, f 124, f 125, f 126, f 127, f 128, f 129, f 130, f 131, f 132, f 133, f 134, f 135, f 136, f 137, f 138, f 139, f 140, f 141, f 142, f 143, f 144, f 145, f 146, f 147, f 148, f 149, f 150, f 151, f 152, f 153, f 154, f 155, f 156, f 157, f 158, f 159, f 160, f 161, f 162, f 163, f 164, f 165, f 166, f 167, f 168, f 169, f 170, f 171, f 172, f 173, f 174, f 175, f 176, f 177, f 178, f 179, f 180, f 181, f 182, f 183, f 184, f 185, f 186, f 187, f 188, f 189, f 190, f 191, f 192, f 193, f 194, f 195, f 196, f 197, f 198, f 199], defers := marks Ds } _
  rw [h3, h6, h10]
  clear h3 h6 h10
  conv => arg 2; whnf
  by_cases hk3 : kd = 3
  · subst hk3
    go_wp2_with fail
    refine cut_useD (n := 200) (K := K) _ rfl ?_
    exact HK.out (by simp) _ (keep_mk (by simp only [List.map_cons, List.map_nil, H3.out, H6.out, H10.out]; rfl))
  · have hb : ((kd : Int) != 3) = true := by simpa using hk3
    have HN3 := Lib.hid hk3
    clear hk3
    go_wp2_with fail
    refine (sLists_any W pw).mono ?_
    rintro e w2 ⟨rfl, hw2⟩
    have hf2 : Fr N0 W w2 := by rw [hw2]; exact (Fr.refl _ _).alloc _
    have hBm : w2.heap[W.heap.size]? = some (.cells #[.pointer (some ⟨pw, 0, none⟩)] 27 (0, 0)) := by rw [hw2]; exact World.alloc_heap_new _ _
    have hz2 : w2.heap.size = W.heap.size + 1 := by rw [hw2]; simp
    have hseq := lists1_seq w2 W.heap.size Rw pw s0 M (HWAS.out.fr hf2 fun _ _ => id) (fun k hk => by have := HRW.out k hk; omega) HFW.out hM hBm
    have lbs := lt_of_block HBS.out
    have HSEQ := Lib.hid hseq; have HF2 := Lib.hid hf2
    clear hseq hf2 hBm hw2 c0
    go_wp2_with fail
    refine wp_rangeP (encs := LsEl.encs) (ok := LsEl.ok) rfl enters_lists1 HSEQ.out (fun Z x A B => LsEl.ok_same) (SameOn.refl _ _) (fun _ => rfl)
      (fun k => k = bs ∨ R k) (fun k hk => ?hS0) (fun k hk => ?hRl)
      (LsI (fun k => k = bs ∨ R k) w2) (fun _ _ _ _ _ => False) (lsI_stable _ _) (fun _ _ _ _ _ _ h _ _ => h) (fun Z Wx hf hZ => ⟨fun _ h => h, hf.same fun _ _ h => h⟩)
      (fun x => { tmps := #[f 0, f 1, f 2, .pointer (some ⟨bs, 0, none⟩), f 4, f 5, .pointer (some ⟨bo, 0, none⟩), f 7, f 8, f 9, .pointer (some ⟨pw, 0, none⟩), f 11, f 12, .string x.p, .pointer (some ⟨x.pt, 0, none⟩), f 15, f 16, f 17, f 18, f 19, f 20, f 21, f 22, f 23, f 24, f 25, f 26, f 27, f 28, f 29, f 30, f 31, f 32, f 33, f 34, f 35, f 36, f 37, f 38, f 39, f 40, f 41, f 42, f 43, f 44, f 45, f 46, f 47, f 48, f 49, f 50, f 51, f 52, f 53, f 54, f 55, f 56, f 57, f 58, f 59, f 60, f 61, f 62, f 63, f 64, f 65, f 66, f 67, f 68, f 69, f 70, f 71, f 72, f 73, f 74, f 75, f 76, f 77, f 78, f 79, f 80, f 81, .pointer (some ⟨bo, 0, none⟩), .int .u8 kd, .bool true, .pointer (some ⟨pw, 0, none⟩), .func (.func 66) #[] #[.pointer (some ⟨W.heap.size, 0, none⟩)], .string x.p, .pointer (some ⟨x.pt, 0, none⟩), f 89, f 90, f 91, f 92, f 93, f 94, f 95, f 96, f 97, f 98, f 99, f 100, f 101, f 102, f 103, f 104, f 105, f 106, f 107, f 108, f 109, f 110, f 111, f 112, f 113, f 114, f 115, f 116, f 117, f 118, f 119, f 120, f 121, f 122, f 123, f 124, f 125, f 126, f 127, f 128, f 129, f 130, f 131, f 132, f 133, f 134, f 135, f 136, f 137, f 138, f 139, f 140, f 141, f 142, f 143, f 144, f 145, f 146, f 147, f 148, f 149, f 150, f 151, f 152, f 153, f 154, f 155, f 156, f 157, f 158, f 159, f 160, f 161, f 162, f 163, f 164, f 165, f 166, f 167, f 168, f 169, f 170, f 171, f 172, f 173, f 174, f 175, f 176, f 177, f 178, f 179, f 180, f 181, f 182, f 183, f 184, f 185, f 186, f 187, f 188, f 189, f 190, f 191, f 192, f 193, f 194, f 195, f 196, f 197, f 198, f 199], defers := [] }) ?assign ?body ?done ?stop
    case hS0 =>
      rcases hk with rfl | hk
      · exact ⟨fun h => h.elim HNB.out fun e => by omega, by omega⟩
      · have := HR.out k hk
        exact ⟨fun h => h.elim (HRR.out k hk) fun e => by omega, by omega⟩
    case hRl =>
      rcases hk with h | h
      · have := HRW.out k h; omega
      · omega
    case assign =>
      intro l x W2 K hK
      simp only [LsEl.encs]
      gi_wp2
      exact hK
    case body =>
      rintro l Z S pre x Wx hZ ⟨i1, i2⟩ hh hok hRW hbd
      have hsx : SameOn (fun k => k = bs ∨ R k) W Wx := (HF2.out.same (S := fun k => k = bs ∨ R k) fun _ _ h => h).trans i2
      have hstx : IsState Wx R p s1 N := HST.out.same (SameOn.mono hsx fun k hk _ => .inr hk)
      have hbsx := (hsx.block bs (.inl rfl) (by omega)).trans HBS.out
      have cs := cell_of_one hbsx
      have hl0 := hh.2 x (by simp)
      have hl1 := HKP.out HN3.out _ _ hl0
      have hfl := HF.out.lists _ _ hl1
      have hc1 := sList_any Wx R p s1 N hstx HF.out hN x.p (by have := hfl.size; omega) x.l hl1
      have hplx := hok.1
      have HSX := Lib.hid hsx; have HC1 := Lib.hid hc1; have HFL := Lib.hid hfl; have HPLX := Lib.hid hplx; have I1 := Lib.hid i1; have I2 := Lib.hid i2; have HBD := Lib.hid hbd
      clear hsx hstx hbsx hl0 hl1 hfl hc1 hplx hh hok i2
      obtain ⟨xp, xt, xl, xR⟩ := x
      simp only at HC1 HFL HPLX ⊢
      obtain ⟨nc, hnc⟩ : ∃ n, xl.commits.length = n := ⟨_, rfl⟩
      have HNC := Lib.hid hnc
      clear hnc
      gi_wp2_with fail
      refine ⟨trivial, ?_⟩
      refine (CallsIn.inRound l (callsIn_wide.2 HC1.out)).mono ?_
      rintro e w3 ⟨py, rfl, hpy, hf3⟩
      have HPY := Lib.hid hpy; have HF3 := Lib.hid hf3
      clear hpy hf3 cs
      gi_wp2_with fail
      refine ⟨trivial, ?_⟩
      refine (CallsIn.inRound l (callsIn_wide.2 (commits_row w3 _ _ _ _ N (HPLX.out.fr HF3.out fun _ _ => id) HFL.out hN))).mono ?_
      rintro e w4 ⟨⟨a1, k1, ds1, b1, rfl, hr1, hd1, he1⟩, hf4⟩
      have HR1 := Lib.hid hr1; have HE1 := Lib.hid he1; have HF4 := Lib.hid hf4; have HD1 := Lib.hid hd1
      clear hr1 he1 hf4 hd1
      gi_wp2_with fail
      refine ⟨trivial, ?_⟩
      refine (CallsIn.inRound l (callsIn_wide.2 (commits_row w4 _ _ _ _ N (HPY.out.fr HF4.out fun _ _ => id) HFL.out hN))).mono ?_
      rintro e w5 ⟨⟨a2, k2, ds2, b2, rfl, hr2, hd2, he2⟩, hf5⟩
      have hcs := cmsSame_any W W w5 xl xp N HFL.out hN a1 a2 k1 k2 b1 b2 ds1 ds2 HD1.out hd2 (rowsC_fr0 HR1.out hf5) hr2 (fun i h h' => ⟨(HE1.out i h h').1, (HE1.out i h h').2.imp fun _ h => Wrs.fr0 h hf5⟩) he2
      have HF5 := Lib.hid hf5; have HCS := Lib.hid hcs
      clear hr2 he2 hf5 hd2 hcs
      gi_wp2_with fail
      refine ⟨trivial, ?_⟩
      refine (CallsIn.inRound l (callsIn_wide.2 HCS.out)).mono ?_
      rintro e w6 ⟨rfl, hf6⟩
      have HF6 := Lib.hid hf6
      clear hf6
      gi_wp2
      have hfx : Fr N0 Wx w6 := ((HF3.out.then0 HF4.out).then0 HF5.out).then0 HF6.out
      exact ⟨S, ⟨I1.out, I2.out.trans (hfx.same fun _ _ h => h)⟩, hfx.mono fun _ h => h.elim, fun j hj => ⟨.inl hj, Nat.lt_of_lt_of_le (HBD.out j hj).2 hfx.size⟩⟩
    case done =>
      intro D Z S xs Wx hfin hZ hI hfr hgr hD hDl hDS hDZ
      obtain ⟨i1, i2⟩ := hI
      have HH := Lib.hid hD; have HI2 := Lib.hid i2; have HFR := Lib.hid hfr
      clear hfin hZ i1 i2 hfr hgr hD hDS hDZ
      go_wp2_with fail
      refine cut_useQD (n := 200) (Q := Q) (e := .exit 1) (Ds := D :: Ds) _ rfl ?_
      exact HQ.out HN3.out _ Wx D (keep_mk (by simp only [List.map_cons, List.map_nil, H3.out]; rfl)) HH.out (by omega) ((HF2.out.mono (T' := fun k => k = bs ∨ R k) fun _ h => h.elim).trans HFR.out fun k h => .inl h) ((HF2.out.same (S := fun k => k = bs ∨ R k) fun _ _ h => h).trans HI2.out)
    case stop => exact fun _ _ _ _ _ _ _ h => h.elim
end Go.Proofs.YtefepfiijoafbaaGreat
namespace Go.Proofs.YtefepfiijoafbaaGreat
open Go.RowKit Go.Shelf Go.Maps
attribute [local go_sem] Oper.semAt_some
attribute [local go_sem ↓] Go.wp_at_zero Go.wp_at_succ
attribute [local irreducible] wpQuiet
set_option linter.unusedVariables false
set_option linter.unusedSimpArgs false

set_option maxRecDepth 100000 in
set_option maxHeartbeats 4000000 in
theorem onR31 {K : Act → World → Prop} {Q : Exit → Act → World → Prop} (W : World) (bm bo n : Nat) (G : Int → Option Int) (o : Op) (ho : o.wf) (V : OpS) (f : Nat → Value) (Ds : List Nat) (hm : MapF Tryz.prog 33 W bm n (viewF G)) (hbo : OpBox W bo o V)
    (h4 : f 4 = .map (some bm)) (h6 : f 6 = .pointer (some ⟨bo, 0, none⟩))
    (hK : ∀ f', Keep [0, 2, 3, 4, 5, 6, 7, 10] f f' → f' 16 = .int .u64 ((G o.start).getD 0) → f' 17 = .bool (G o.start).isSome → K (frD 200 f' Ds) W) :
    Code.wp Tryz.prog (lvFst (onC 10)) (Exit.then K Q) (frD 200 f Ds) W := by
  have c1 := (box_cells hbo).1 1
  rw [opCells_eq] at c1
  simp only [List.getElem?_toArray, List.getElem?_cons_zero, List.getElem?_cons_succ] at c1
  have hkey := keyOf_int_mk (P := Tryz.prog) Tryz.underlying33 ho.start
  have hlk : (Instr.lookup 44 (.map (some bm)) (.int .u64 o.start) true).run Tryz.prog W = .ok (.tuple #[.int .u64 ((G o.start).getD 0), .bool (G o.start).isSome]) W := by
    cases hG : G o.start with
    | none => exact hm.look_none (t := 44) lawU Tryz.underlying44 (zeroU64R _) hkey (by rw [show (Lit.int .u64 o.start) = litU o.start from rfl, viewF_at, hG]; rfl)
    | some c => exact hm.look_some (t := 44) lawU Tryz.underlying44 (zeroU64R _) hkey (by rw [show (Lit.int .u64 o.start) = litU o.start from rfl, viewF_at, hG]; rfl)
  have HK := Lib.hid hK; have H4 := Lib.hid h4; have H6 := Lib.hid h6
  clear hK hm hbo ho hkey
  obtain ⟨g, hg⟩ : ∃ g, (G o.start).getD 0 = g := ⟨_, rfl⟩
  obtain ⟨h, hh⟩ : ∃ h, (G o.start).isSome = h := ⟨_, rfl⟩
  obtain ⟨st, hst⟩ : ∃ x, o.start = x := ⟨_, rfl⟩
  rw [hg, hh] at HK hlk
  rw [hst] at hlk c1
  clear hg hh hst
  show Code.wp _ _ _ { tmps := #[f 0, f 1, f 2, f 3, f 4, f 5, f 6, f 7, f 8, f 9, f 10, f 11, f 12, f 13, f 14, f 15, f 16, f 17, f 18, f 19, f 20, f 21, f 22, f 23, f 24, f 25, f 26, f 27, f 28, f 29, f 30, f 31, f 32, f 33, f 34, f 35, f 36, f 37, f 38, f 39, f 40, f 41, f 42, f 43, f 44, f 45, f 46, f 47, f 48, f 49, f 50, f 51, f 52, f 53, f 54, f 55, f 56, f 57, f 58, f 59, f 60, f 61, f 62, f 63, f 64, f 65, f 66, f 67, f 68, f 69, f 70, f 71, f 72, f 73, f 74, f 75, f 76, f 77, f 78, f 79, f 80, f 81, f 82, f 83, f 84, f 85, f 86, f 87, f 88, f 89, f 90, f 91, f 92, f 93, f 94, f 95, f 96, f 97, f 98, f 99, f 100, f 101, f 102, f 103, f 104, f 105, f 106, f 107, f 108, f 109, f 110, f 111, f 112, f 113, f 114, f 115, f 116, f 117, f 118, f 119, f 120, f 121, f 122, f 123, f 124, f 125, f 126, f 127, f 128, f 129, f 130, f 131, f 132, f 133, f 134, f 135, f 136, f 137, f 138, f 139, f 140, f 141, f 142, f 143, f 144, f 145, f 146, f 147, f 148, f 149, f 150, f 151, f 152, f 153, f 154, f 155, f 156, f 157, f 158, f 159, f 160, f 161, f 162, f 163, f 164, f 165, f 166, f 167, f 168, f 169, f 170, f 171, f 172, f 173, f 174, f 175, f 176, f 177, f 178, f 179, f 180, f 181, f 182, f 183, f 184, f 185, f 186, f 187, f 188, f 189, f 190, f 191, f 192, f 193, f 194, f 195, f 196, f 197, f 198, f 199], defers := marks Ds } _
  rw [h4, h6]
  clear h4 h6
  conv => arg 2; whnf
  go_wp2_with fail
  refine cut_useD (n := 200) (K := K) _ rfl ?_
  exact HK.out _ (keep_mk (by simp only [List.map_cons, List.map_nil, H4.out, H6.out]; rfl)) rfl rfl
set_option maxRecDepth 100000 in
set_option maxHeartbeats 4000000 in
theorem onR32 {K : Act → World → Prop} {Q : Exit → Act → World → Prop} (W : World) (bo : Nat) (g : Option Int) (o : Op) (V : OpS) (f : Nat → Value) (Ds : List Nat) (hbo : OpBox W bo o V) (hg : ∀ d, g = some d → d = o.commit)
    (h6 : f 6 = .pointer (some ⟨bo, 0, none⟩)) (h16 : f 16 = .int .u64 (g.getD 0)) (h17 : f 17 = .bool g.isSome)
    (hK : ∀ f', Keep [0, 2, 3, 4, 5, 6, 7, 10, 17] f f' → K (frD 200 f' Ds) W) :
    Code.wp Tryz.prog (lvFst (onC 11)) (Exit.then K Q) (frD 200 f Ds) W := by
  have c2 := (box_cells hbo).1 2
  rw [opCells_eq] at c2
  simp only [List.getElem?_toArray, List.getElem?_cons_zero, List.getElem?_cons_succ] at c2
  have HK := Lib.hid hK; have H6 := Lib.hid h6; have H17 := Lib.hid h17
  clear hK hbo
  cases g with
  | none =>
    simp only [Option.getD_none, Option.isSome_none] at h16 h17 H17
    clear hg
    show Code.wp _ _ _ { tmps := #[f 0, f 1, f 2, f 3, f 4, f 5, f 6, f 7, f 8, f 9, f 10, f 11, f 12, f 13, f 14, f 15, f 16, f 17, f 18, f 19, f 20, f 21, f 22, f 23, f 24, f 25, f 26, f 27, f 28, f 29, f 30, f 31, f 32, f 33, f 34, f 35, f 36, f 37, f 38, f 39, f 40, f 41, f 42, f 43, f 44, f 45, f 46, f 47, f 48, f 49, f 50, f 51, f 52, f 53, f 54, f 55, f 56, f 57, f 58, f 59, f 60, f 61, f 62, f 63, f 64, f 65, f 66, f 67, f 68, f 69, f 70, f 71, f 72, f 73, f 74, f 75, f 76, f 77, f 78, f 79, f 80, f 81, f 82, f 83, f 84, f 85, f 86, f 87, f 88, f 89, f 90, f 91, f 92, f 93, f 94, f 95, f 96, f 97, f 98, f 99, f 100, f 101, f 102, f 103, f 104, f 105, f 106, f 107, f 108, f 109, f 110, f 111, f 112, f 113, f 114, f 115, f 116, f 117, f 118, f 119, f 120, f 121, f 122, f 123, f 124, f 125, f 126, f 127, f 128, f 129, f 130, f 131, f 132, f 133, f 134, f 135, f 136, f 137, f 138, f 139, f 140, f 141, f 142, f 143, f 144, f 145, f 146, f 147, f 148, f 149, f 150, f 151, f 152, f 153, f 154, f 155, f 156, f 157, f 158, f 159, f 160, f 161, f 162, f 163, f 164, f 165, f 166, f 167, f 168, f 169, f 170, f 171, f 172, f 173, f 174, f 175, f 176, f 177, f 178, f 179, f 180, f 181, f 182, f 183, f 184, f 185, f 186, f 187, f 188, f 189, f 190, f 191, f 192, f 193, f 194, f 195, f 196, f 197, f 198, f 199], defers := marks Ds } _
    rw [h6, h16, h17]
    clear h6 h16 h17
    conv => arg 2; whnf
    go_wp2_with fail
    refine cut_useD (n := 200) (K := K) _ rfl ?_
    exact HK.out _ (keep_mk (by simp only [List.map_cons, List.map_nil, H6.out, H17.out]; rfl))
  | some d =>
    obtain rfl := hg d rfl
    simp only [Option.getD_some, Option.isSome_some] at h16 h17 H17
    clear hg
    obtain ⟨cm, hcm⟩ : ∃ x, o.commit = x := ⟨_, rfl⟩
    rw [hcm] at c2 h16
    clear hcm
    show Code.wp _ _ _ { tmps := #[f 0, f 1, f 2, f 3, f 4, f 5, f 6, f 7, f 8, f 9, f 10, f 11, f 12, f 13, f 14, f 15, f 16, f 17, f 18, f 19, f 20, f 21, f 22, f 23, f 24, f 25, f 26, f 27, f 28, f 29, f 30, f 31, f 32, f 33, f 34, f 35, f 36, f 37, f 38, f 39, f 40, f 41, f 42, f 43, f 44, f 45, f 46, f 47, f 48, f 49, f 50, f 51, f 52, f 53, f 54, f 55, f 56, f 57, f 58, f 59, f 60, f 61, f 62, f 63, f 64, f 65, f 66, f 67, f 68, f 69, f 70, f 71, f 72, f 73, f 74, f 75, f 76, f 77, f 78, f 79, f 80, f 81, f 82, f 83, f 84, f 85, f 86, f 87, f 88, f 89, f 90, f 91, f 92, f 93, f 94, f 95, f 96, f 97, f 98, f 99, f 100, f 101, f 102, f 103, f 104, f 105, f 106, f 107, f 108, f 109, f 110, f 111, f 112, f 113, f 114, f 115, f 116, f 117, f 118, f 119, f 120, f 121, f 122, f 123, f 124, f 125, f 126, f 127, f 128, f 129, f 130, f 131, f 132, f 133, f 134, f 135, f 136, f 137, f 138, f 139, f 140, f 141, f 142, f 143, f 144, f 145, f 146, f 147, f 148, f 149, f 150, f 151, f 152, f 153, f 154, f 155, f 156, f 157, f 158, f 159, f 160, f 161, f 162, f 163, f 164, f 165, f 166, f 167, f 168, f 169, f 170, f 171, f 172, f 173, f 174, f 175, f 176, f 177, f 178, f 179, f 180, f 181, f 182, f 183, f 184, f 185, f 186, f 187, f 188, f 189, f 190, f 191, f 192, f 193, f 194, f 195, f 196, f 197, f 198, f 199], defers := marks Ds } _
    rw [h6, h16, h17]
    clear h6 h16 h17
    conv => arg 2; whnf
    go_wp2_with fail
    refine cut_useD (n := 200) (K := K) _ rfl ?_
    exact HK.out _ (keep_mk (by simp only [List.map_cons, List.map_nil, H6.out, H17.out]; rfl))
set_option maxRecDepth 100000 in
set_option maxHeartbeats 4000000 in
theorem onR34 {K : Act → World → Prop} {Q : Exit → Act → World → Prop} (W : World) (bm bo n : Nat) (G : Int → Option Int) (o : Op) (ho : o.wf) (V : OpS) (f : Nat → Value) (Ds : List Nat) (hm : MapF Tryz.prog 33 W bm n (viewF G)) (hn : n ≤ 100000) (hbo : OpBox W bo o V)
    (h4 : f 4 = .map (some bm)) (h6 : f 6 = .pointer (some ⟨bo, 0, none⟩))
    (hK : ∀ f' W', Keep [0, 2, 3, 4, 5, 6, 7, 10, 17] f f' → MapF Tryz.prog 33 W' bm (n + 1) (viewF (updI G o.start (some o.commit))) → Fr (fun k => k = bm) W W' → K (frD 200 f' Ds) W') :
    Code.wp Tryz.prog (lvFst (onC 12)) (Exit.then K Q) (frD 200 f Ds) W := by
  have c1 := (box_cells hbo).1 1
  have c2 := (box_cells hbo).1 2
  rw [opCells_eq] at c1 c2
  simp only [List.getElem?_toArray, List.getElem?_cons_zero, List.getElem?_cons_succ] at c1 c2
  have hkey := keyOf_int_mk (P := Tryz.prog) Tryz.underlying33 ho.start
  obtain ⟨w2, hrun, hm2, hf2⟩ := hm.store lawU Tryz.underlying44 (by unfold maxLen; omega) hkey (.int .u64 o.commit)
  rw [show (Lit.int .u64 o.start) = litU o.start from rfl, viewF_put] at hm2
  have HK := Lib.hid hK; have H4 := Lib.hid h4; have H6 := Lib.hid h6; have HM2 := Lib.hid hm2; have HF2 := Lib.hid hf2
  clear hK hm hbo ho hkey hm2 hf2
  obtain ⟨st, hst⟩ : ∃ x, o.start = x := ⟨_, rfl⟩
  obtain ⟨cm, hcm⟩ : ∃ x, o.commit = x := ⟨_, rfl⟩
  rw [hst] at hrun c1 HM2 HK
  rw [hcm] at hrun c2 HM2 HK
  clear hst hcm
  show Code.wp _ _ _ { tmps := #[f 0, f 1, f 2, f 3, f 4, f 5, f 6, f 7, f 8, f 9, f 10, f 11, f 12, f 13, f 14, f 15, f 16, f 17, f 18, f 19, f 20, f 21, f 22, f 23, f 24, f 25, f 26, f 27, f 28, f 29, f 30, f 31, f 32, f 33, f 34, f 35, f 36, f 37, f 38, f 39, f 40, f 41, f 42, f 43, f 44, f 45, f 46, f 47, f 48, f 49, f 50, f 51, f 52, f 53, f 54, f 55, f 56, f 57, f 58, f 59, f 60, f 61, f 62, f 63, f 64, f 65, f 66, f 67, f 68, f 69, f 70, f 71, f 72, f 73, f 74, f 75, f 76, f 77, f 78, f 79, f 80, f 81, f 82, f 83, f 84, f 85, f 86, f 87, f 88, f 89, f 90, f 91, f 92, f 93, f 94, f 95, f 96, f 97, f 98, f 99, f 100, f 101, f 102, f 103, f 104, f 105, f 106, f 107, f 108, f 109, f 110, f 111, f 112, f 113, f 114, f 115, f 116, f 117, f 118, f 119, f 120, f 121, f 122, f 123, f 124, f 125, f 126, f 127, f 128, f 129, f 130, f 131, f 132, f 133, f 134, f 135, f 136, f 137, f 138, f 139, f 140, f 141, f 142, f 143, f 144, f 145, f 146, f 147, f 148, f 149, f 150, f 151, f 152, f 153, f 154, f 155, f 156, f 157, f 158, f 159, f 160, f 161, f 162, f 163, f 164, f 165, f 166, f 167, f 168, f 169, f 170, f 171, f 172, f 173, f 174, f 175, f 176, f 177, f 178, f 179, f 180, f 181, f 182, f 183, f 184, f 185, f 186, f 187, f 188, f 189, f 190, f 191, f 192, f 193, f 194, f 195, f 196, f 197, f 198, f 199], defers := marks Ds } _
  rw [h4, h6]
  clear h4 h6
  conv => arg 2; whnf
  go_wp2_with fail
  refine cut_useD (n := 200) (K := K) _ rfl ?_
  exact HK.out _ w2 (keep_mk (by simp only [List.map_cons, List.map_nil, H4.out, H6.out]; rfl)) HM2.out HF2.out
end Go.Proofs.YtefepfiijoafbaaGreat
namespace Go.Proofs.YtefepfiijoafbaaGreat
open Go.RowKit Go.Shelf Go.Maps
attribute [local go_sem] Oper.semAt_some
attribute [local go_sem ↓] Go.wp_at_zero Go.wp_at_succ
attribute [local irreducible] wpQuiet
set_option linter.unusedVariables false
set_option linter.unusedSimpArgs false

noncomputable def onJ : Code := lvLoop (lvIn (lvSnd (onC 13)))
/-- Cells that a step reads, in whatever world behind W0. -/
abbrev Cell3 (W0 : World) (a1 a2 a3 : Addr) (v1 v2 v3 : Value) (W : World) : Prop := W.cell? a1 = some v1 ∧ W.cell? a2 = some v2 ∧ W.cell? a3 = some v3 ∧ Fr N0 W0 W
theorem cell3_keep {W0 : World} {a1 a2 a3 : Addr} {v1 v2 v3 : Value} {W W' : World} (hf : Fr N0 W W') (h : Cell3 W0 a1 a2 a3 v1 v2 v3 W) : Cell3 W0 a1 a2 a3 v1 v2 v3 W' :=
  ⟨hf.cell id h.1, hf.cell id h.2.1, hf.cell id h.2.2.1, h.2.2.2.then0 hf⟩

set_option maxRecDepth 100000 in
set_option maxHeartbeats 4000000 in
theorem on36 {K : Act → World → Prop} {Q : Exit → Act → World → Prop} (W : World) (bg k n c : Nat) (a : Option Addr) (had : Bool) (f : Nat → Value) (Ds : List Nat) (hbg : W.heap[bg]? = some (.cells #[.slice a n c] 34 (0, 0))) (h7 : f 7 = .pointer (some ⟨bg, 0, none⟩)) (h17 : f 17 = .bool had) (h18 : f 18 = .int .i64 k)
    (hK : k < n → had = false → ∀ f', Keep [0, 2, 3, 4, 5, 6, 7, 10, 17, 18] f f' → K (frD 200 f' Ds) W) (hQ : ¬ (k < n ∧ had = false) → ∀ f', Keep [0, 2, 3, 4, 5] f f' → Q (.exit 6) (frD 200 f' Ds) W) :
    Code.wp Tryz.prog (lvFst onJ) (Exit.then K Q) (frD 200 f Ds) W := by
  have cg := cell_of_one hbg
  have HK := Lib.hid hK; have HQ := Lib.hid hQ; have H7 := Lib.hid h7; have H17 := Lib.hid h17; have H18 := Lib.hid h18
  clear hK hQ hbg
  show Code.wp _ _ _ { tmps := #[f 0, f 1, f 2, f 3, f 4, f 5, f 6, f 7, f 8, f 9, f 10, f 11, f 12, f 13, f 14, f 15, f 16, f 17, f 18, f 19, f 20, f 21, f 22, f 23, f 24, f 25, f 26, f 27, f 28, f 29, f 30, f 31, f 32, f 33, f 34, f 35, f 36, f 37, f 38, f 39, f 40, f 41, f 42, f 43, f 44, f 45, f 46, f 47, f 48, f 49, f 50, f 51, f 52, f 53, f 54, f 55, f 56, f 57, f 58, f 59, f 60, f 61, f 62, f 63, f 64, f 65, f 66, f 67, f 68, f 69, f 70, f 71, f 72, f 73, f 74, f 75, f 76, f 77, f 78, f 79, f 80, f 81, f 82, f 83, f 84, f 85, f 86, f 87, f 88, f 89, f 90, f 91, f 92, f 93, f 94, f 95, f 96, f 97, f 98, f 99, f 100, f 101, f 102, f 103, f 104, f 105, f 106, f 107, f 108, f 109, f 110, f 111, f 112, f 113, f 114, f 115, f 116, f 117, f 118, f 119, f 120, f 121, f 122, f 123, f 124, f 125, f 126, f 127, f 128, f 129, f 130, f 131, f 132, f 133, f 134, f 135, f 136, f 137, f 138, f 139, f 140, f 141, f 142, f 143, f 144, f 145, f 146, f 147, f 148, f 149, f 150, f 151, f 152, f 153, f 154, f 155, f 156, f 157, f 158, f 159, f 160, f 161, f 162, f 163, f 164, f 165, f 166, f 167, f 168, f 169, f 170, f 171, f 172, f 173, f 174, f 175, f 176, f 177, f 178, f 179, f 180, f 181, f 182, f 183, f 184, f 185, f 186, f 187, f 188, f 189, f 190, f 191, f 192, f 193, f 194, f 195, f 196, f 197, f 198, f 199], defers := marks Ds } _
  rw [h7, h17, h18]
  clear h7 h17 h18
  conv => arg 2; whnf
  by_cases hlt : k < n
  · have hki : (k : Int) < (n : Int) := by omega
    cases had with
    | false =>
      go_wp2_with fail
      refine cut_useD (n := 200) (K := K) _ rfl ?_
      exact HK.out hlt (by simp) _ (keep_mk (by simp only [List.map_cons, List.map_nil, H7.out, H17.out, H18.out]; rfl))
    | true =>
      go_wp2_with fail
      refine cut_useQD (n := 200) (Q := Q) (e := .exit 6) _ rfl ?_
      exact HQ.out (by simp) _ (keep_mk rfl)
  · have hki : ¬ (k : Int) < (n : Int) := by omega
    go_wp2_with fail
    refine cut_useQD (n := 200) (Q := Q) (e := .exit 6) _ rfl ?_
    exact HQ.out (fun h => hlt h.1) _ (keep_mk rfl)
set_option maxRecDepth 100000 in
set_option maxHeartbeats 4000000 in
theorem on37 {K : Act → World → Prop} {Q : Exit → Act → World → Prop} (W : World) (k : Nat) (hk : k ≤ 100000) (f : Nat → Value) (Ds : List Nat) (h18 : f 18 = .int .i64 k)
    (hK : ∀ f', Keep [0, 2, 3, 4, 5, 6, 7, 10, 17] f f' → f' 18 = .int .i64 ((k + 1 : Nat) : Int) → K (frD 200 f' Ds) W) :
    Code.wp Tryz.prog (lvSnd (lvSnd onJ)) (Exit.then K Q) (frD 200 f Ds) W := by
  have HK := Lib.hid hK
  clear hK
  show Code.wp _ _ _ { tmps := #[f 0, f 1, f 2, f 3, f 4, f 5, f 6, f 7, f 8, f 9, f 10, f 11, f 12, f 13, f 14, f 15, f 16, f 17, f 18, f 19, f 20, f 21, f 22, f 23, f 24, f 25, f 26, f 27, f 28, f 29, f 30, f 31, f 32, f 33, f 34, f 35, f 36, f 37, f 38, f 39, f 40, f 41, f 42, f 43, f 44, f 45, f 46, f 47, f 48, f 49, f 50, f 51, f 52, f 53, f 54, f 55, f 56, f 57, f 58, f 59, f 60, f 61, f 62, f 63, f 64, f 65, f 66, f 67, f 68, f 69, f 70, f 71, f 72, f 73, f 74, f 75, f 76, f 77, f 78, f 79, f 80, f 81, f 82, f 83, f 84, f 85, f 86, f 87, f 88, f 89, f 90, f 91, f 92, f 93, f 94, f 95, f 96, f 97, f 98, f 99, f 100, f 101, f 102, f 103, f 104, f 105, f 106, f 107, f 108, f 109, f 110, f 111, f 112, f 113, f 114, f 115, f 116, f 117, f 118, f 119, f 120, f 121, f 122, f 123, f 124, f 125, f 126, f 127, f 128, f 129, f 130, f 131, f 132, f 133, f 134, f 135, f 136, f 137, f 138, f 139, f 140, f 141, f 142, f 143, f 144, f 145, f 146, f 147, f 148, f 149, f 150, f 151, f 152, f 153, f 154, f 155, f 156, f 157, f 158, f 159, f 160, f 161, f 162, f 163, f 164, f 165, f 166, f 167, f 168, f 169, f 170, f 171, f 172, f 173, f 174, f 175, f 176, f 177, f 178, f 179, f 180, f 181, f 182, f 183, f 184, f 185, f 186, f 187, f 188, f 189, f 190, f 191, f 192, f 193, f 194, f 195, f 196, f 197, f 198, f 199], defers := marks Ds } _
  rw [h18]
  clear h18
  conv => arg 2; whnf
  go_wp2_with fail
  refine cut_useD (n := 200) (K := K) _ rfl ?_
  exact HK.out _ (keep_mk rfl) (by show Value.int .i64 ((k : Int) + 1) = _; go_num)
set_option maxRecDepth 100000 in
set_option maxHeartbeats 4000000 in
theorem on38 {K : Act → World → Prop} {Q : Exit → Act → World → Prop} (W : World) (R : Nat → Prop) (p bs bg b off k n c N : Nat) (s : SS) (ws : List Wr) (f : Nat → Value) (Ds : List Nat) (hst : IsState W R p s N) (hF : s.Fine N) (hN : N ≤ 100000)
    (hbs : W.heap[bs]? = some (.cells #[.pointer (some ⟨p, 0, none⟩)] 27 (0, 0))) (hbg : W.heap[bg]? = some (.cells #[.slice (some ⟨b, off, none⟩) n c] 34 (0, 0))) (hk : k < ws.length) (hkn : k < n) (hc : ∀ i, i < 8 → W.cell? ⟨b, off + k * 8 + i, none⟩ = (Wr.enc ws[k])[i]?) (l : PL) (hl : s.lists ws[k].pred = some l)
    (h3 : f 3 = .pointer (some ⟨bs, 0, none⟩)) (h7 : f 7 = .pointer (some ⟨bg, 0, none⟩)) (h18 : f 18 = .int .i64 k)
    (hK : ∀ f' W' px, Keep [0, 2, 3, 4, 5, 6, 7, 10, 17, 18] f f' → f' 19 = .pointer (some ⟨px, 0, none⟩) → IsPL W' (fun k => W.heap.size ≤ k) px l → Fr N0 W W' → K (frD 200 f' Ds) W') :
    Code.wp Tryz.prog (lvFst (lvIn (lvFst (lvSnd onJ)))) (Exit.then K Q) (frD 200 f Ds) W := by
  have cs := cell_of_one hbs
  have cg := cell_of_one hbg
  have cp := hc 2 (by decide)
  simp only [Wr.enc, List.getElem?_cons_succ, List.getElem?_cons_zero] at cp
  have hz := (hF.lists _ _ hl).size
  have hb : Cell3 W ⟨bs, 0, none⟩ ⟨bg, 0, none⟩ ⟨b, off + k * 8 + 2, none⟩ (.pointer (some ⟨p, 0, none⟩)) (.slice (some ⟨b, off, none⟩) n c) (.string ws[k].pred) W := ⟨cs, cg, cp, Fr.refl _ _⟩
  have hl2 := sList_any W.drew R p s N (hst.fr (Fr.refl N0 W).drew fun _ _ => id) hF hN ws[k].pred (by omega) l hl
  obtain ⟨q, hq⟩ : ∃ q, ws[k].pred = q := ⟨_, rfl⟩
  rw [hq] at hb hl2
  have HK := Lib.hid hK; have HB := Lib.hid hb; have HL := Lib.hid hl2; have H3 := Lib.hid h3; have H7 := Lib.hid h7; have H18 := Lib.hid h18
  have hki : (k : Int) < (n : Int) := by omega
  clear hK hst hF hbs hbg hc hl cs cg cp hb hl2 hq hz
  show Code.wp _ _ _ { tmps := #[f 0, f 1, f 2, f 3, f 4, f 5, f 6, f 7, f 8, f 9, f 10, f 11, f 12, f 13, f 14, f 15, f 16, f 17, f 18, f 19, f 20, f 21, f 22, f 23, f 24, f 25, f 26, f 27, f 28, f 29, f 30, f 31, f 32, f 33, f 34, f 35, f 36, f 37, f 38, f 39, f 40, f 41, f 42, f 43, f 44, f 45, f 46, f 47, f 48, f 49, f 50, f 51, f 52, f 53, f 54, f 55, f 56, f 57, f 58, f 59, f 60, f 61, f 62, f 63, f 64, f 65, f 66, f 67, f 68, f 69, f 70, f 71, f 72, f 73, f 74, f 75, f 76, f 77, f 78, f 79, f 80, f 81, f 82, f 83, f 84, f 85, f 86, f 87, f 88, f 89, f 90, f 91, f 92, f 93, f 94, f 95, f 96, f 97, f 98, f 99, f 100, f 101, f 102, f 103, f 104, f 105, f 106, f 107, f 108, f 109, f 110, f 111, f 112, f 113, f 114, f 115, f 116, f 117, f 118, f 119, f 120, f 121, f 122, f 123, f 124, f 125, f 126, f 127, f 128, f 129, f 130, f 131, f 132, f 133, f 134, f 135, f 136, f 137, f 138, f 139, f 140, f 141, f 142, f 143, f 144, f 145, f 146, f 147, f 148, f 149, f 150, f 151, f 152, f 153, f 154, f 155, f 156, f 157, f 158, f 159, f 160, f 161, f 162, f 163, f 164, f 165, f 166, f 167, f 168, f 169, f 170, f 171, f 172, f 173, f 174, f 175, f 176, f 177, f 178, f 179, f 180, f 181, f 182, f 183, f 184, f 185, f 186, f 187, f 188, f 189, f 190, f 191, f 192, f 193, f 194, f 195, f 196, f 197, f 198, f 199], defers := marks Ds } _
  rw [h3, h7, h18]
  clear h3 h7 h18
  conv => arg 2; whnf
  go_region_held3 (Cell3 W ⟨bs, 0, none⟩ ⟨bg, 0, none⟩ ⟨b, off + k * 8 + 2, none⟩ (.pointer (some ⟨p, 0, none⟩)) (.slice (some ⟨b, off, none⟩) n c) (.string q)) (first
    | (with_reducible assumption)
    | (with_reducible exact cell3_keep (Fr.refl _ _).drew HB.out)
    | (with_reducible exact cell3_keep hfq (cell3_keep (Fr.refl _ _).drew HB.out))
    | fail) (first
    | (go_simp; go_at_call 18; refine HL.out.mono ?_; rintro e wq ⟨px, rfl, hpx, hfq⟩)
    | fail)
  refine cut_useD (n := 200) (K := K) _ rfl ?_
  exact HK.out _ _ px (keep_mk (by simp only [List.map_cons, List.map_nil, H3.out, H7.out, H18.out]; rfl)) rfl hpx ((Fr.refl N0 W).drew.then0 hfq)
end Go.Proofs.YtefepfiijoafbaaGreat
namespace Go.Proofs.YtefepfiijoafbaaGreat
open Go.RowKit Go.Shelf Go.Maps
attribute [local go_sem] Oper.semAt_some
attribute [local go_sem ↓] Go.wp_at_zero Go.wp_at_succ
attribute [local irreducible] wpQuiet
set_option linter.unusedVariables false
set_option linter.unusedSimpArgs false

abbrev Cell1 (W0 : World) (a1 : Addr) (v1 : Value) (W : World) : Prop := W.cell? a1 = some v1 ∧ Fr N0 W0 W
theorem cell1_keep {W0 : World} {a1 : Addr} {v1 : Value} {W W' : World} (hf : Fr N0 W W') (h : Cell1 W0 a1 v1 W) : Cell1 W0 a1 v1 W' := ⟨hf.cell id h.1, h.2.then0 hf⟩

set_option maxRecDepth 100000 in
set_option maxHeartbeats 8000000 in
theorem on39a {K : Act → World → Prop} {Q : Exit → Act → World → Prop} (W : World) (Rx : Nat → Prop) (px bo N : Nat) (q : ByteArray) (l : PL) (o : Op) (ho : o.wf) (V : OpS) (f : Nat → Value) (Ds : List Nat) (hx : IsPL W Rx px l) (hfl : l.Fine q N) (hN : N ≤ 100000) (hc0 : o.commit ≠ 0) (hseen : seenPL l o.commit = seenPL l (o.commit - 1) + 1)
    (hbo : OpBox W bo o V) (h6 : f 6 = .pointer (some ⟨bo, 0, none⟩)) (h19 : f 19 = .pointer (some ⟨px, 0, none⟩))
    (hK : ∀ f' W', Keep [0, 2, 3, 4, 5, 6, 7, 10, 17, 18] f f' → Fr N0 W W' → K (frD 200 f' Ds) W') :
    Code.wp Tryz.prog (lvSnd (lvIn (lvFst (lvSnd onJ)))) (Exit.then K Q) (frD 200 f Ds) W := by
  have c2 := (box_cells hbo).1 2
  rw [opCells_eq] at c2
  simp only [List.getElem?_toArray, List.getElem?_cons_zero, List.getElem?_cons_succ] at c2
  have hwf := wf_nat ho.commit
  have hs := fun (W' : World) (h : Fr N0 W W') (t : Int) => seen_any W' Rx px q l N (hx.fr h fun _ _ => id) hfl hN t
  obtain ⟨cm, hcm⟩ : ∃ x, o.commit = x := ⟨_, rfl⟩
  rw [hcm] at c2 hwf hc0 hseen
  obtain ⟨b, hb⟩ : ∃ b, seenPL l (cm - 1) = b := ⟨_, rfl⟩
  have hbl : b ≤ 100001 := by
    rw [← hb]; unfold seenPL
    have := posI_le id (cm - 1) l.times
    have := hfl.times
    split <;> omega
  rw [hb] at hseen
  have hs1 : ∀ W', Fr N0 W W' → Calls Tryz.prog 21 #[.pointer (some ⟨px, 0, none⟩), .int .u64 cm] W' fun e w' => e = .returned (.int .i64 ((b : Int) + 1)) ∧ Fr N0 W' w' := fun W' h => (hs W' h cm).mono fun e w' ⟨h1, h2⟩ => ⟨by rw [h1, hseen]; rfl, h2⟩
  have hs2 : ∀ W', Fr N0 W W' → Calls Tryz.prog 21 #[.pointer (some ⟨px, 0, none⟩), .int .u64 (cm - 1)] W' fun e w' => e = .returned (.int .i64 (b : Int)) ∧ Fr N0 W' w' := fun W' h => (hs W' h (cm - 1)).mono fun e w' ⟨h1, h2⟩ => ⟨by rw [h1, hb], h2⟩
  have hw1 : IntKind.u64.wrap (cm - 1) = cm - 1 := IntWalk.u64_in _ ⟨by omega, by omega⟩
  have hw2 : IntKind.i64.wrap ((b : Int) + 1) = (b : Int) + 1 := IntWalk.i64_in _ ⟨by omega, by omega⟩
  have e1 : ((cm : Int) != 0) = true := by simpa using hc0
  have e2 : ((cm : Int) == 0) = false := by simpa using hc0
  have HK := Lib.hid hK; have HS1 := Lib.hid hs1; have HS2 := Lib.hid hs2; have H6 := Lib.hid h6; have H19 := Lib.hid h19
  obtain ⟨S, hK2, hxS, hSS⟩ := kept_open (kept_cons c2 (kept_start (Fr.refl N0 W)))
  have HSS := Lib.hid hSS
  have x1 := fun x => (hxS x).1
  have x3 := fun x => Lib.hid (hxS x).2
  clear hK hx hfl hbo c2 hwf hs hs1 hs2 hseen hb hbl hc0 hcm ho hN hSS hxS
  show Code.wp _ _ _ { tmps := #[f 0, f 1, f 2, f 3, f 4, f 5, f 6, f 7, f 8, f 9, f 10, f 11, f 12, f 13, f 14, f 15, f 16, f 17, f 18, f 19, f 20, f 21, f 22, f 23, f 24, f 25, f 26, f 27, f 28, f 29, f 30, f 31, f 32, f 33, f 34, f 35, f 36, f 37, f 38, f 39, f 40, f 41, f 42, f 43, f 44, f 45, f 46, f 47, f 48, f 49, f 50, f 51, f 52, f 53, f 54, f 55, f 56, f 57, f 58, f 59, f 60, f 61, f 62, f 63, f 64, f 65, f 66, f 67, f 68, f 69, f 70, f 71, f 72, f 73, f 74, f 75, f 76, f 77, f 78, f 79, f 80, f 81, f 82, f 83, f 84, f 85, f 86, f 87, f 88, f 89, f 90, f 91, f 92, f 93, f 94, f 95, f 96, f 97, f 98, f 99, f 100, f 101, f 102, f 103, f 104, f 105, f 106, f 107, f 108, f 109, f 110, f 111, f 112, f 113, f 114, f 115, f 116, f 117, f 118, f 119, f 120, f 121, f 122, f 123, f 124, f 125, f 126, f 127, f 128, f 129, f 130, f 131, f 132, f 133, f 134, f 135, f 136, f 137, f 138, f 139, f 140, f 141, f 142, f 143, f 144, f 145, f 146, f 147, f 148, f 149, f 150, f 151, f 152, f 153, f 154, f 155, f 156, f 157, f 158, f 159, f 160, f 161, f 162, f 163, f 164, f 165, f 166, f 167, f 168, f 169, f 170, f 171, f 172, f 173, f 174, f 175, f 176, f 177, f 178, f 179, f 180, f 181, f 182, f 183, f 184, f 185, f 186, f 187, f 188, f 189, f 190, f 191, f 192, f 193, f 194, f 195, f 196, f 197, f 198, f 199], defers := marks Ds } _
  rw [h6, h19]
  clear h6 h19
  conv => arg 2; whnf
  refine wp_seq ?_
  refine wp_region_kept hK2 (by kernel_rfl) (by kernel_rfl) ?_
  intro hne
  repeat (quiet_step (first
    | (go_at_call 21; with_reducible exact calls_kept hK2 (HS1.out _ (x3 _).out))
    | (go_at_call 21; with_reducible exact calls_kept hK2 (HS2.out _ (x3 _).out))
    | fail))
  refine wpQuiet_nil ?_
  rintro wr ⟨⟨_, hr⟩, rfl⟩
  replace hr := Lib.hid (HSS.out _ hr).2
  clear x1 x3 hK2 hne HSS S
  go_wp2_with fail
  refine cut_useD (n := 200) (K := K) _ rfl ?_
  exact HK.out _ _ (keep_mk (by simp only [List.map_cons, List.map_nil, H6.out]; rfl)) hr.out
end Go.Proofs.YtefepfiijoafbaaGreat
