/- slices.Equal at writes (equal ones); Schema. Commits: a copy of a list's commits. Copy: another list. -/
import Derived.Deep.QuietTactic
import Derived.Deep.RegionHeld3
import Derived.Test.YtefepfiijoafbaaGreatQEq4
namespace Go.Proofs.YtefepfiijoafbaaGreat
open Go.RowKit Go.Shelf
attribute [local go_sem] Oper.semAt_some
set_option linter.unusedVariables false
set_option linter.unusedSimpArgs false

theorem schC_size : (Tryz.prog.info? 32).map (·.size) = some 8 := by kernel_rfl
set_option maxRecDepth 100000 in
set_option maxHeartbeats 2000000 in
theorem schema_any (W : World) (R : Nat → Prop) (p : Nat) (l : PL) (h : IsPL W R p l) (hs : 0 < l.s.pred.size) : Calls Tryz.prog 81 #[.pointer (some ⟨p, 0, none⟩)] W fun e w' => e = .returned (.agg l.s.enc.toArray) ∧ Fr N0 W w' := by
  obtain ⟨vt, vc, cs, h1, -⟩ := h
  obtain ⟨⟨sp, st, sl, se, sm, so, sr, sc⟩, mk, ts, cms⟩ := l
  simp only [Sch.enc] at h1 hs ⊢
  have lt := lt_of_block h1
  obtain ⟨W0, hW0⟩ : ∃ W0, W.alloc (Obj.cells #[.string ⟨#[]⟩, .int .u8 0, .bool false, .bool false, .bool false, .bool false, .bool false, .bool false] 32) = W0 := ⟨_, rfl⟩
  have hf0 : Fr N0 W W0 := by rw [← hW0]; exact (Fr.refl _ _).alloc _
  have hb0 : W0.heap[W.heap.size]? = some (Obj.cells #[.string ⟨#[]⟩, .int .u8 0, .bool false, .bool false, .bool false, .bool false, .bool false, .bool false] 32 (0, 0)) := by rw [← hW0]; exact World.alloc_heap_new W _
  have hb1 := (hf0.at id lt).trans h1
  obtain ⟨m, n, -⟩ := box_cells hb1
  have hn := pNone_any W0 p sp (m 0) hs
  have HN := Lib.hid hn; have H1 := Lib.hid hb1; have H0 := Lib.hid hb0; have HF0 := Lib.hid hf0
  have hl0 := lt_of_block hb0; have hl1 := lt_of_block hb1
  clear hn h1 m n hb1 hb0 hf0
  go_enter Tryz.func81, Tryz.ntmps81
  go_wp2_with fail
  try rw [hW0]
  refine HN.out.mono ?_
  rintro e w1 ⟨rfl, hf1⟩
  clear hW0
  have hb0 := (hf1.at id hl0).trans H0.out
  have hb1 := (hf1.at id hl1).trans H1.out
  obtain ⟨m1, n1, l1⟩ := box_cells hb1
  go_wp2_with (go_loud (refine wpList_store_row rfl 32 _ _ rfl W.heap.size _ rfl rfl 32 _ hb0 schC_size rfl (by simp [Value.oneCell']) ?_))
  refine bodyPost_ret_by (results_cell_row rfl _ _ W.heap.size 32 _ (0, 0) _ rfl (setRow_heap _ _ _ _ _ _ hb0) Tryz.underlying32 rfl schC_size) rfl ?_
  exact ⟨rfl, (HF0.out.then0 hf1).trans (fr_setRow _ _ _) fun k hk => .inr (by rw [hk]; exact Nat.le_refl _)⟩
end Go.Proofs.YtefepfiijoafbaaGreat
namespace Go.Proofs.YtefepfiijoafbaaGreat
open Go.RowKit Go.Shelf
attribute [local go_sem] Oper.semAt_some
set_option linter.unusedVariables false
set_option linter.unusedSimpArgs false

/-- The commits of ds, over their rows at or above a base, read as cs; the rows lie apart from one block. -/
def CmsAt (W : World) (base : Nat) (ob : Option Nat) (ds : List CmV) (cs : List Cm) : Prop :=
  ∀ i (h : i < ds.length) (h' : i < cs.length), ds[i].time = cs[i].time ∧ W.ownsRow base 61 8 (.slice ds[i].a ds[i].n ds[i].c) cs[i].writes.length (cs[i].writes.flatMap Wr.enc) ∧ ∀ q, (Value.slice ds[i].a ds[i].n ds[i].c).ownBlock = some q → ob ≠ some q

end Go.Proofs.YtefepfiijoafbaaGreat
namespace Go.Proofs.YtefepfiijoafbaaGreat
open Go.RowKit Go.Shelf
attribute [local go_sem] Oper.semAt_some
attribute [local irreducible] wpQuiet
set_option linter.unusedVariables false
set_option linter.unusedSimpArgs false

abbrev BoxP (W0 : World) (A : Nat) (ca : Array Value) (W : World) : Prop := (∀ i, W.cell? ⟨A, i, none⟩ = ca[i]?) ∧ A < W.heap.size ∧ Fr N0 W0 W
end Go.Proofs.YtefepfiijoafbaaGreat
