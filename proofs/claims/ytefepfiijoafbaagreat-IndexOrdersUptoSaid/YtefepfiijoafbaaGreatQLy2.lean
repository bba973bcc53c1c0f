/- lives of the Index laws, its regions: the two commits. -/
import Derived.Test.YtefepfiijoafbaaGreatQLy1
namespace Go.Proofs.YtefepfiijoafbaaGreat
open Go.RowKit Go.Shelf Go.Maps
attribute [local go_sem] Oper.semAt_some
attribute [local irreducible] wpQuiet
set_option linter.unusedVariables false
set_option linter.unusedSimpArgs false

set_option maxRecDepth 100000 in
set_option maxHeartbeats 4000000 in
theorem ly5 {K : Act → World → Prop} {Q : Exit → Act → World → Prop} (w W : World) (R : Nat → Prop) (q p : Nat) (f : Nat → Value) (h : Lxl w W R q { s := cAge }) (h1 : f 1 = vP q) (h3 : f 3 = vP p) (h5 : f 5 = vPut)
    (hK : ∀ f' W' R', f' 1 = vP q → f' 3 = vP p → f' 5 = vPut → Lxl w W' R' q lAge → (∀ k, R' k → R k ∨ W.heap.size ≤ k) → Fr R W W' → K (frA 110 f') W') :
    Code.wp Tryz.prog (lvFst (lyB 5)) (Exit.then K Q) (frA 110 f) W := by
  have HN := Lib.hid fun W n => lxNum_any W n
  have HP := Lib.hid fun W u n => lx1_any W u bAge (numV n)
  have hadd := fun (W7 : World) (S : Nat) (hf : Fr N0 W W7) (hS : W7.heap[S]? = some (.cells (wAge.flatMap Wr.enc).toArray 61 (0, 0))) (hs : W.heap.size ≤ S) => lx_add_age (h.fr hf) hS fun hr => by have := (h.2.1 S hr).2; omega
  have HA := Lib.hid hadd; have HK := Lib.hid hK
  simp only [wAge, numV, Val.enc, Wr.enc, bAge, List.flatMap_cons, List.flatMap_nil, List.cons_append, List.nil_append, List.append_nil] at HN HP HA
  unfold vPut at h5 HK
  clear hadd hK h
  show Code.wp _ _ _ { tmps := #[f 0, f 1, f 2, f 3, f 4, f 5, f 6, f 7, f 8, f 9, f 10, f 11, f 12, f 13, f 14, f 15, f 16, f 17, f 18, f 19, f 20, f 21, f 22, f 23, f 24, f 25, f 26, f 27, f 28, f 29, f 30, f 31, f 32, f 33, f 34, f 35, f 36, f 37, f 38, f 39, f 40, f 41, f 42, f 43, f 44, f 45, f 46, f 47, f 48, f 49, f 50, f 51, f 52, f 53, f 54, f 55, f 56, f 57, f 58, f 59, f 60, f 61, f 62, f 63, f 64, f 65, f 66, f 67, f 68, f 69, f 70, f 71, f 72, f 73, f 74, f 75, f 76, f 77, f 78, f 79, f 80, f 81, f 82, f 83, f 84, f 85, f 86, f 87, f 88, f 89, f 90, f 91, f 92, f 93, f 94, f 95, f 96, f 97, f 98, f 99, f 100, f 101, f 102, f 103, f 104, f 105, f 106, f 107, f 108, f 109], defers := [] } _
  rw [h1, h3, h5]
  clear h1 h3 h5
  conv => arg 2; whnf
  go_wp2_with fail
  refine (HN.out _ _).mono ?_
  rintro e w1 ⟨rfl, hf1⟩
  go_wp2_with fail
  refine (HP.out _ _ _).mono ?_
  rintro e w2 ⟨rfl, hf2⟩
  have hg2 := hf1.then0 hf2
  clear hf1 hf2
  go_wp2_with fail
  refine (HN.out _ _).mono ?_
  rintro e w3 ⟨rfl, hf3⟩
  go_wp2_with fail
  refine (HP.out _ _ _).mono ?_
  rintro e w4 ⟨rfl, hf4⟩
  have hg4 := (hg2.then0 hf3).then0 hf4
  clear hg2 hf3 hf4
  go_wp2_with fail
  refine (HN.out _ _).mono ?_
  rintro e w5 ⟨rfl, hf5⟩
  go_wp2_with fail
  refine (HP.out _ _ _).mono ?_
  rintro e w6 ⟨rfl, hf6⟩
  have hg6 := (hg4.then0 hf5).then0 hf6
  have HG := Lib.hid hg6
  clear hg4 hf5 hf6 hg6
  go_wp2_with fail
  refine (HA.out _ _ (HG.out.alloc _) (World.alloc_heap_new _ _) HG.out.size).mono ?_
  rintro e w7 ⟨⟨a, E, rfl⟩, R', hl, hR, hf7⟩
  have HL := Lib.hid hl; have HR := Lib.hid hR; have HF := Lib.hid hf7
  clear hl hR hf7
  go_wp2_with fail
  refine cut_use (n := 110) (K := K) _ rfl ?_
  have hz := HG.out.size
  exact HK.out _ w7 R' rfl rfl rfl HL.out (fun k hk => (HR.out k hk).imp id fun h => by simp at h; omega) (((HG.out.alloc _).mono fun _ h => h.elim).trans HF.out fun k hk => .inl hk)
set_option maxRecDepth 100000 in
set_option maxHeartbeats 4000000 in
theorem ly6 {K : Act → World → Prop} {Q : Exit → Act → World → Prop} (w W : World) (R : Nat → Prop) (q p : Nat) (f : Nat → Value) (h : Lxl w W R p { s := cFri }) (h1 : f 1 = vP q) (h3 : f 3 = vP p) (h5 : f 5 = vPut)
    (hK : ∀ f' W' R', f' 1 = vP q → f' 3 = vP p → Lxl w W' R' p lFri → (∀ k, R' k → R k ∨ W.heap.size ≤ k) → Fr R W W' → K (frA 110 f') W') :
    Code.wp Tryz.prog (lvFst (lyB 6)) (Exit.then K Q) (frA 110 f) W := by
  have HN := Lib.hid fun W n => lxNode_any W n
  have HP := Lib.hid fun W u n => lx1_any W u bFri (nodeV n)
  have hadd := fun (W7 : World) (S : Nat) (hf : Fr N0 W W7) (hS : W7.heap[S]? = some (.cells (wFri.flatMap Wr.enc).toArray 61 (0, 0))) (hs : W.heap.size ≤ S) => lx_add_fri (h.fr hf) hS fun hr => by have := (h.2.1 S hr).2; omega
  have HA := Lib.hid hadd; have HK := Lib.hid hK
  simp only [wFri, nodeV, Val.enc, Wr.enc, bFri, List.flatMap_cons, List.flatMap_nil, List.cons_append, List.nil_append, List.append_nil] at HN HP HA
  unfold vPut at h5
  clear hadd hK h
  show Code.wp _ _ _ { tmps := #[f 0, f 1, f 2, f 3, f 4, f 5, f 6, f 7, f 8, f 9, f 10, f 11, f 12, f 13, f 14, f 15, f 16, f 17, f 18, f 19, f 20, f 21, f 22, f 23, f 24, f 25, f 26, f 27, f 28, f 29, f 30, f 31, f 32, f 33, f 34, f 35, f 36, f 37, f 38, f 39, f 40, f 41, f 42, f 43, f 44, f 45, f 46, f 47, f 48, f 49, f 50, f 51, f 52, f 53, f 54, f 55, f 56, f 57, f 58, f 59, f 60, f 61, f 62, f 63, f 64, f 65, f 66, f 67, f 68, f 69, f 70, f 71, f 72, f 73, f 74, f 75, f 76, f 77, f 78, f 79, f 80, f 81, f 82, f 83, f 84, f 85, f 86, f 87, f 88, f 89, f 90, f 91, f 92, f 93, f 94, f 95, f 96, f 97, f 98, f 99, f 100, f 101, f 102, f 103, f 104, f 105, f 106, f 107, f 108, f 109], defers := [] } _
  rw [h1, h3, h5]
  clear h1 h3 h5
  conv => arg 2; whnf
  go_wp2_with fail
  refine (HN.out _ _).mono ?_
  rintro e w1 ⟨rfl, hf1⟩
  go_wp2_with fail
  refine (HP.out _ _ _).mono ?_
  rintro e w2 ⟨rfl, hf2⟩
  have hg2 := hf1.then0 hf2
  clear hf1 hf2
  go_wp2_with fail
  refine (HN.out _ _).mono ?_
  rintro e w3 ⟨rfl, hf3⟩
  go_wp2_with fail
  refine (HP.out _ _ _).mono ?_
  rintro e w4 ⟨rfl, hf4⟩
  have hg4 := (hg2.then0 hf3).then0 hf4
  have HG := Lib.hid hg4
  clear hg2 hf3 hf4 hg4
  go_wp2_with fail
  refine (HA.out _ _ (HG.out.alloc _) (World.alloc_heap_new _ _) HG.out.size).mono ?_
  rintro e w7 ⟨⟨a, E, rfl⟩, R', hl, hR, hf7⟩
  have HL := Lib.hid hl; have HR := Lib.hid hR; have HF := Lib.hid hf7
  clear hl hR hf7
  go_wp2_with fail
  refine cut_use (n := 110) (K := K) _ rfl ?_
  have hz := HG.out.size
  exact HK.out _ w7 R' rfl rfl HL.out (fun k hk => (HR.out k hk).imp id fun h => by simp at h; omega) (((HG.out.alloc _).mono fun _ h => h.elim).trans HF.out fun k hk => .inl hk)
end Go.Proofs.YtefepfiijoafbaaGreat
