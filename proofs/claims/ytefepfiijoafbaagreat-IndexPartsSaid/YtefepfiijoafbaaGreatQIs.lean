/- Package index at a list that is nil or unmade: ErrNil. index.Is. -/
import Derived.Test.YtefepfiijoafbaaGreatQFindK
import Derived.Test.YtefepfiijoafbaaGreatQRkP
import Derived.Test.YtefepfiijoafbaaGreatQIOrder
import Derived.Test.YtefepfiijoafbaaGreatQBS
import Derived.Test.YtefepfiijoafbaaGreatQLookP
namespace Go.Proofs.YtefepfiijoafbaaGreat
open Go.RowKit Go.Shelf Go.Maps
attribute [local go_sem] Oper.semAt_some
attribute [local irreducible] wpQuiet
set_option linter.unusedVariables false
set_option linter.unusedSimpArgs false

/-- A list that is nil or unmade. -/
def PNone (W : World) (v : Value) : Prop := v = .pointer none ∨ ∃ p, v = .pointer (some ⟨p, 0, none⟩) ∧ W.cell? ⟨p, 0, none⟩ = some (.string ⟨#[]⟩)
theorem PNone.fr {W W' : World} {v : Value} (h : PNone W v) (hf : Fr N0 W W') : PNone W' v := by
  rcases h with h | ⟨p, h, hc⟩
  · exact .inl h
  · exact .inr ⟨p, h, hf.cell id hc⟩
set_option maxRecDepth 100000 in
set_option maxHeartbeats 2000000 in
theorem pNone_yes (W : World) (v : Value) (h : PNone W v) : Calls Tryz.prog 71 #[v] W fun e w' => e = .returned (.bool true) ∧ Fr N0 W w' := by
  rcases h with rfl | ⟨p, rfl, hc⟩
  · go_enter Tryz.func71, Tryz.ntmps71
    go_wp2
    (try go_ret)
    exact ⟨rfl, Fr.refl _ _⟩
  · go_enter Tryz.func71, Tryz.ntmps71
    go_wp2
    (try go_ret)
    exact ⟨rfl, Fr.refl _ _⟩
set_option maxRecDepth 100000 in
set_option maxHeartbeats 2000000 in
theorem schema_none (W : World) (v : Value) (h : PNone W v) : Calls Tryz.prog 81 #[v] W fun e w' => e = .returned (.agg #[.string ⟨#[]⟩, .int .u8 0, .bool false, .bool false, .bool false, .bool false, .bool false, .bool false]) ∧ Fr N0 W w' := by
  have hn := fun w1 (hf : Fr N0 W w1) => pNone_yes w1 v (h.fr hf)
  have HN := Lib.hid hn
  have hv : v = .pointer none ∨ ∃ p, v = .pointer (some ⟨p, 0, none⟩) := by
    rcases h with h | ⟨p, h, -⟩
    · exact .inl h
    · exact .inr ⟨p, h⟩
  clear hn h
  obtain ⟨W0, hW0⟩ : ∃ W0, W.alloc (Obj.cells #[.string ⟨#[]⟩, .int .u8 0, .bool false, .bool false, .bool false, .bool false, .bool false, .bool false] 32) = W0 := ⟨_, rfl⟩
  have hf0 : Fr N0 W W0 := by rw [← hW0]; exact (Fr.refl _ _).alloc _
  have hb0 : W0.heap[W.heap.size]? = some (Obj.cells #[.string ⟨#[]⟩, .int .u8 0, .bool false, .bool false, .bool false, .bool false, .bool false, .bool false] 32 (0, 0)) := by rw [← hW0]; exact World.alloc_heap_new W _
  have H0 := Lib.hid hb0; have HF0 := Lib.hid hf0
  have hl0 := lt_of_block hb0
  clear hb0 hf0
  rcases hv with rfl | ⟨p, rfl⟩
  all_goals
    go_enter Tryz.func81, Tryz.ntmps81
    go_wp2_with fail
    try rw [hW0]
    refine (HN.out W0 HF0.out).mono ?_
    rintro e w1 ⟨rfl, hf1⟩
    clear hW0
    have hb0 := (hf1.at id hl0).trans H0.out
    go_wp2_with (go_loud (refine wpList_store_row rfl 32 _ _ rfl W.heap.size _ rfl rfl 32 _ hb0 schC_size rfl (by simp [Value.oneCell']) ?_))
    refine bodyPost_ret_by (results_cell_row rfl _ _ W.heap.size 32 _ (0, 0) _ rfl (setRow_heap _ _ _ _ _ _ hb0) Tryz.underlying32 rfl schC_size) rfl ?_
    exact ⟨rfl, (HF0.out.then0 hf1).trans (fr_setRow _ _ _) fun k hk => .inr (by rw [hk]; exact Nat.le_refl _)⟩
set_option maxRecDepth 100000 in
set_option maxHeartbeats 2000000 in
theorem edged_none (W : World) (v : Value) (h : PNone W v) (t : Int) (va bk : Bool) : Calls Tryz.prog 100 #[v, .int .u64 t, .bool va, .bool bk] W fun e w' => e = .returned (.int .i64 1) ∧ Fr N0 W w' := by
  have hn := schema_none W v h
  have HN := Lib.hid hn
  clear hn h
  go_enter Tryz.func100, Tryz.ntmps100
  go_wp2_with (go_at_call 81; refine HN.out.mono ?_; rintro e w1 ⟨rfl, hf1⟩)
  (try go_ret)
  exact ⟨rfl, hf1.alloc _⟩
set_option maxRecDepth 100000 in
set_option maxHeartbeats 2000000 in
theorem find_none (W : World) (v : Value) (h : PNone W v) (fn : Fn) (vv uv sv : Value) (t : Int) : Calls Tryz.prog 41 #[v, .agg (fn.enc vv uv sv), .int .u64 t] W fun e w' => e = .returned (.tuple #[.slice none 0 0, .int .i64 1]) ∧ Fr N0 W w' := by
  have hn := fun w1 (hf : Fr N0 W w1) => schema_none w1 v (h.fr hf)
  have HN := Lib.hid hn
  have hfs := field_sch
  clear hn h
  simp only [Fn.enc]
  go_enter Tryz.func41, Tryz.ntmps41
  go_wp2_with (go_at_call 81; refine (HN.out _ ((Fr.refl _ _).alloc _)).mono ?_; rintro e w1 ⟨rfl, hf1⟩)
  exact bodyPost_ret (v := .tuple #[.slice none 0 0, .int .i64 1]) (by simp [results, Tryz.results41, go_sem]) rfl ⟨rfl, ((Fr.refl _ _).alloc _).then0 hf1⟩
set_option maxRecDepth 100000 in
set_option maxHeartbeats 2000000 in
theorem order_none (W : World) (v : Value) (h : PNone W v) (t : Int) (down : Bool) (us : Value) : Calls Tryz.prog 27 #[v, .int .u64 t, .bool down, us] W fun e w' => e = .returned (.tuple #[.slice none 0 0, .int .i64 1]) ∧ Fr N0 W w' := by
  have hn := schema_none W v h
  have HN := Lib.hid hn
  clear hn h
  go_enter Tryz.func27, Tryz.ntmps27
  go_wp2_with (go_at_call 81; refine HN.out.mono ?_; rintro e w1 ⟨rfl, hf1⟩)
  exact bodyPost_ret (v := .tuple #[.slice none 0 0, .int .i64 1]) (by simp [results, Tryz.results27, go_sem]) rfl ⟨rfl, hf1.alloc _⟩
set_option maxRecDepth 100000 in
set_option maxHeartbeats 2000000 in
theorem edges_none (W : World) (v : Value) (h : PNone W v) (t u : Int) (bk : Bool) : Calls Tryz.prog 35 #[v, .int .u64 t, .bool bk, .int .u64 u] W fun e w' => e = .returned (.tuple #[.slice none 0 0, .int .i64 1]) ∧ Fr N0 W w' := by
  have hn := edged_none W v h t true bk
  have HN := Lib.hid hn
  clear hn h
  go_enter Tryz.func35, Tryz.ntmps35
  go_wp2_with (go_at_call 100; refine HN.out.mono ?_; rintro e w1 ⟨rfl, hf1⟩)
  exact bodyPost_ret (v := .tuple #[.slice none 0 0, .int .i64 1]) (by simp [results, Tryz.results35, go_sem]) rfl ⟨rfl, hf1⟩
set_option maxRecDepth 100000 in
set_option maxHeartbeats 2000000 in
theorem count_none (W : World) (v : Value) (h : PNone W v) (t u : Int) (bk : Bool) : Calls Tryz.prog 44 #[v, .int .u64 t, .bool bk, .int .u64 u] W fun e w' => e = .returned (.tuple #[.int .i64 0, .int .i64 1]) ∧ Fr N0 W w' := by
  have hn := edged_none W v h t false bk
  have HN := Lib.hid hn
  clear hn h
  go_enter Tryz.func44, Tryz.ntmps44
  go_wp2_with (go_at_call 100; refine HN.out.mono ?_; rintro e w1 ⟨rfl, hf1⟩)
  exact bodyPost_ret (v := .tuple #[.int .i64 0, .int .i64 1]) (by simp [results, Tryz.results44, go_sem]) rfl ⟨rfl, hf1⟩
end Go.Proofs.YtefepfiijoafbaaGreat
namespace Go.Proofs.YtefepfiijoafbaaGreat
open Go.RowKit Go.Shelf Go.Maps
attribute [local go_sem] Oper.semAt_some
attribute [local irreducible] wpQuiet
set_option linter.unusedVariables false
set_option linter.unusedSimpArgs false

set_option maxRecDepth 100000 in
set_option maxHeartbeats 2000000 in
theorem is_err (W : World) (v : Value) (fn : Fn) (vv uv sv : Value) (t u E : Int) (hE : E ≠ 0)
    (hF : ∀ w1, Fr N0 W w1 → Calls Tryz.prog 41 #[v, .agg (fn.enc vv uv sv), .int .u64 t] w1 fun e w' => e = .returned (.tuple #[.slice none 0 0, .int .i64 E]) ∧ Fr N0 w1 w') :
    Calls Tryz.prog 43 #[v, .agg (fn.enc vv uv sv), .int .u64 t, .int .u64 u] W fun e w' => e = .returned (.tuple #[.bool false, .int .i64 E]) ∧ Fr N0 W w' := by
  have HF := Lib.hid hF
  have hE1 : (E != 0) = true := by simpa using hE
  clear hF
  simp only [Fn.enc] at *
  go_enter Tryz.func43, Tryz.ntmps43
  go_wp2_with (go_at_call 41; refine (HF.out _ ((Fr.refl _ _).alloc _)).mono ?_; rintro e w1 ⟨rfl, hf1⟩)
  exact bodyPost_ret (v := .tuple #[.bool false, .int .i64 E]) (by simp [results, Tryz.results43, go_sem]) rfl ⟨rfl, ((Fr.refl _ _).alloc _).then0 hf1⟩
theorem is_none (W : World) (v : Value) (h : PNone W v) (fn : Fn) (vv uv sv : Value) (t u : Int) : Calls Tryz.prog 43 #[v, .agg (fn.enc vv uv sv), .int .u64 t, .int .u64 u] W fun e w' => e = .returned (.tuple #[.bool false, .int .i64 1]) ∧ Fr N0 W w' :=
  is_err W v fn vv uv sv t u 1 (by decide) fun w1 hf => find_none w1 v (h.fr hf) fn vv uv sv t
set_option maxRecDepth 100000 in
set_option maxHeartbeats 2000000 in
theorem is_ok (W : World) (v : Value) (fn : Fn) (vv uv sv : Value) (t u : Int) (P : Int → Prop) (hP : ∀ u, P u → (Lit.int .u64 u).wf = true) (hlen : ∀ xs : List Int, RisesBy id xs → (∀ u, u ∈ xs ↔ P u) → xs.length ≤ 17592186044416)
    (hF : ∀ w1, Fr N0 W w1 → Calls Tryz.prog 41 #[v, .agg (fn.enc vv uv sv), .int .u64 t] w1 fun e w' => ∃ r, e = .returned (.tuple #[r, .int .i64 0]) ∧ NewInts w1 P (.returned r) w') :
    Calls Tryz.prog 43 #[v, .agg (fn.enc vv uv sv), .int .u64 t, .int .u64 u] W fun e w' => ∃ b, e = .returned (.tuple #[.bool b, .int .i64 0]) ∧ (b = true ↔ P u) ∧ Fr N0 W w' := by
  have HF := Lib.hid hF
  have hb := fun (w1 w2 : World) (r : Value) (h : NewInts w1 P (.returned r) w2) => (show ∃ b, (b = true ↔ P u) ∧ ∃ i : Int, Calls Tryz.prog 73 #[r, .int .u64 u] w2 fun e w' => e = .returned (.tuple #[.int .i64 i, .bool b]) ∧ Fr N0 w2 w' from by
    obtain ⟨r', xs, e, h1, h2, h3, h4⟩ := h
    injection e with e; subst e
    obtain ⟨bl, -, hI⟩ := ints_rowH h1 fun x hx => hP x ((h3 x).1 hx)
    exact ⟨decide (u ∈ xs), by simp [h3], posI id u xs, bs_any w2 bl r xs hI u (h2.imp fun h => Int.le_of_lt h) (hlen xs h2 h3)⟩)
  have HB := Lib.hid hb
  clear hF hb hP hlen
  simp only [Fn.enc] at *
  go_enter Tryz.func43, Tryz.ntmps43
  go_wp2_with (first
    | (go_at_call 41; refine (HF.out _ ((Fr.refl _ _).alloc _)).mono ?_; rintro e w1 ⟨r, rfl, hn1⟩; obtain ⟨bb, hbb, ii, hbs⟩ := HB.out _ _ _ hn1; have HBS := Lib.hid hbs; have hf1 : Fr N0 _ w1 := (by obtain ⟨_, _, _, _, _, _, h5⟩ := hn1; exact h5); clear hbs hn1)
    | (go_at_call 73; refine HBS.out.mono ?_; rintro e w2 ⟨rfl, hf2⟩))
  exact bodyPost_ret (v := .tuple #[.bool bb, .int .i64 0]) (by simp [results, Tryz.results43, go_sem]) rfl ⟨bb, rfl, hbb, (((Fr.refl _ _).alloc _).then0 hf1).then0 hf2⟩
end Go.Proofs.YtefepfiijoafbaaGreat
