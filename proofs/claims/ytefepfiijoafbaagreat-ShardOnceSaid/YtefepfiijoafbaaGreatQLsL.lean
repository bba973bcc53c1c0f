/- The law's small functions: writes, text, put. lives: what a step of the example needs. -/
import Derived.Deep.QuietTactic
import Derived.Test.YtefepfiijoafbaaGreatQSMay
import Derived.Test.YtefepfiijoafbaaGreatQLsP
import Derived.Test.YtefepfiijoafbaaGreatQSApply
import Derived.Test.YtefepfiijoafbaaGreatQLsVs
namespace Go.Proofs.YtefepfiijoafbaaGreat
open Go.RowKit Go.Shelf
attribute [local go_sem] Oper.semAt_some
attribute [local irreducible] wpQuiet
set_option linter.unusedVariables false
set_option linter.unusedSimpArgs false

def SomeNum (W : World) (e : Ending) (w' : World) : Prop := (∃ n : Int, e = .returned (.int .i64 n)) ∧ Fr N0 W w'
set_option maxRecDepth 100000 in
set_option maxHeartbeats 2000000 in
theorem lsWrites_any (W : World) (b : Nat) (v : Value) (xs : List Wr) (h : Wrs W b v xs) : Calls Tryz.prog 51 #[v] W (SomeNum W) := by
  obtain ⟨a, off, cap, rfl, h1, h2, h3, h4, h5⟩ := h
  have HC := Lib.hid h5
  clear h5 h4
  go_enter Tryz.func51, Tryz.ntmps51
  go_wp2
  go_loopw [3, 4] (fun nv iv wr => ∃ (k : Nat) (n : Int), k ≤ 300 ∧ k ≤ xs.length ∧ iv = .int .i64 k ∧ nv = .int .i64 n ∧ Fr N0 W wr) (fun _ iv _ => 300 - (intOf iv).toNat)
  case atStart => exact ⟨0, _, by omega, by omega, rfl, rfl, Fr.refl _ _⟩
  case round =>
    obtain ⟨k, n, hk, hkl, rfl, rfl, hfr⟩ := hrel
    by_cases hlt : k < xs.length
    · by_cases hl3 : k < 300
      · obtain rfl := h3 (by omega)
        obtain ⟨c0, c1, c2, c3, c4, c5, c6, c7⟩ := wr_cells (W := W) (HC.out k hlt)
        replace c2 := hfr.cell id c2
        replace c6 := hfr.cell id c6
        have hki : (k : Int) < (xs.length : Int) := by omega
        have hk3 : (k : Int) < 300 := by omega
        obtain ⟨xp, hxp⟩ : ∃ x, xs[k].pred = x := ⟨_, rfl⟩
        obtain ⟨xv, hxv⟩ : ∃ x, xs[k].val.s = x := ⟨_, rfl⟩
        rw [hxp] at c2
        rw [hxv] at c6
        have HFR := Lib.hid hfr
        clear hxp hxv c0 c1 c3 c4 c5 c7 hfr
        go_wp2
        go_quiet (fail)
        go_wp2
        go_roundw
        case rel => exact ⟨k + 1, _, by omega, by omega, by go_num, rfl, HFR.out.drewN _⟩
        case measure => simp [intOf]; omega
      · have hk3 : ¬ (k : Int) < 300 := by omega
        have hki : (k : Int) < (xs.length : Int) := by omega
        go_wp2
        go_ret
        exact ⟨⟨_, rfl⟩, hfr⟩
    · have hki : ¬ (k : Int) < (xs.length : Int) := by omega
      go_wp2
      go_ret
      exact ⟨⟨_, rfl⟩, hfr⟩

theorem val_size : (Tryz.prog.info? 57).map (·.size) = some 5 := by kernel_rfl
theorem wrW_size : (Tryz.prog.info? 61).map (·.size) = some 8 := by kernel_rfl
set_option maxRecDepth 100000 in
set_option maxHeartbeats 1000000 in
theorem lsText_any (W : World) (s : ByteArray) : Calls Tryz.prog 48 #[.string s] W fun e w' => e = .returned (.agg #[.int .u8 3, .bool false, .int .i64 0, .string s, .int .u64 0]) ∧ Fr N0 W w' := by
  go_enter Tryz.func48, Tryz.ntmps48
  go_wp2_with (go_loud (refine wpList_store_row rfl 57 _ _ rfl W.heap.size _ rfl rfl 57 _ (World.alloc_heap_new _ _) val_size rfl (by simp [Value.oneCell']) ?_))
  refine bodyPost_ret_by (results_cell_row rfl _ _ W.heap.size 57 _ (0, 0) _ rfl (setRow_heap _ _ _ _ _ _ (World.alloc_heap_new _ _)) Tryz.underlying57 rfl val_size) rfl ?_
  exact ⟨rfl, ((Fr.refl N0 W).alloc _).trans (fr_setRow _ _ _) fun k hk => .inr (by rw [hk]; exact Nat.le_refl _)⟩
set_option maxRecDepth 100000 in
set_option maxHeartbeats 1000000 in
theorem lsPut_any (W : World) (u : Int) (p : ByteArray) (x : Val) : Calls Tryz.prog 47 #[.int .u64 u, .string p, .agg x.enc.toArray] W fun e w' => e = .returned (.agg (Wr.enc ⟨false, u, p, x⟩).toArray) ∧ Fr N0 W w' := by
  obtain ⟨vk, vb, vn, vs, vu⟩ := x
  simp only [Val.enc, Wr.enc]
  go_enter Tryz.func47, Tryz.ntmps47
  go_wp2_with (go_loud (refine wpList_store_row rfl 61 _ _ rfl (W.heap.size + 1) _ rfl rfl 61 _ (heap_alloc2_new _ _ _) wrW_size rfl (by simp [Value.oneCell']) ?_))
  refine bodyPost_ret_by (results_cell_row rfl _ _ (W.heap.size + 1) 61 _ (0, 0) _ rfl (setRow_heap _ _ _ _ _ _ (heap_alloc2_new _ _ _)) Tryz.underlying61 rfl wrW_size) rfl ?_
  exact ⟨rfl, (((Fr.refl N0 W).alloc _).alloc _).trans (fr_setRow _ _ _) fun k hk => .inr (by rw [hk]; exact Nat.le_succ _)⟩
end Go.Proofs.YtefepfiijoafbaaGreat
namespace Go.Proofs.YtefepfiijoafbaaGreat
open Go.RowKit Go.Shelf Go.Maps
attribute [local go_sem] Oper.semAt_some
attribute [local irreducible] wpQuiet
set_option linter.unusedVariables false
set_option linter.unusedSimpArgs false

/-- A state that lies in new blocks, all of them there; nothing that lay in w has turned. -/
def Live (w W : World) (R : Nat → Prop) (p : Nat) (s : SS) (N : Nat) : Prop := IsState W R p s N ∧ s.Fine N ∧ (∀ k, R k → w.heap.size ≤ k ∧ k < W.heap.size) ∧ Fr N0 w W
theorem Live.fr {w W W' : World} {R : Nat → Prop} {p N : Nat} {s : SS} (h : Live w W R p s N) (hf : Fr N0 W W') : Live w W' R p s N :=
  ⟨h.1.fr hf fun _ _ => id, h.2.1, fun k hk => ⟨(h.2.2.1 k hk).1, Nat.lt_of_lt_of_le (h.2.2.1 k hk).2 hf.size⟩, h.2.2.2.then0 hf⟩
theorem Live.cell {w W : World} {R : Nat → Prop} {p N : Nat} {s : SS} (h : Live w W R p s N) : ∃ mL mS mF, W.heap[p]? = some (.cells #[.bool true, .map (some mL), .map (some mS), .map (some mF)] 122 (0, 0)) ∧ R p := by
  obtain ⟨⟨t, m, rfl, h⟩, -⟩ := h
  exact ⟨_, _, _, h.cells, h.inR.1⟩
theorem live_new (w : World) : Calls Tryz.prog 12 #[] w fun e w' => ∃ p R, e = .returned (.pointer (some ⟨p, 0, none⟩)) ∧ Live w w' R p SS.empty 0 := by
  refine (sNew_any w).mono fun e w' ⟨t, he, hn, hf⟩ => ⟨t.p, _, he, hn.state.bound, SS.empty_fine, fun k hk => hk, hf⟩
/-- What Apply leaves: its answer, the state, and that nothing but the state's own blocks has turned. -/
def ApplyPost (w W : World) (R : Nat → Prop) (p : Nat) (r : SS × Int) (M : Nat) (e : Ending) (w' : World) : Prop := e = .returned (.int .i64 r.2) ∧ (∃ R', Live w w' R' p r.1 M ∧ ∀ k, R' k → R k ∨ W.heap.size ≤ k) ∧ Fr R W w'
theorem live_apply {w W : World} {R : Nat → Prop} {p N : Nat} {s : SS} (h : Live w W R p s N) (hN : N ≤ 100000) (o : Op) (ho : o.wf) (V : OpS) (b : Nat) (hw : Wrs W b (.slice V.wa o.ws.length V.wc) o.ws) (hk : o.kind ≠ 4 ∧ o.kind ≠ 5 ∧ o.kind ≠ 6) :
    Calls Tryz.prog 13 #[.pointer (some ⟨p, 0, none⟩), .agg (opEnc o V).toArray] W (ApplyPost w W R p (sApply s o) (N + 1)) := by
  obtain ⟨h1, h2, h3, h4⟩ := h
  refine (sApply_any W R p s N h1 h2 hN o ho V b hw hk).mono fun e w' ⟨he, R', g1, g2, g3⟩ => ⟨he, ⟨fun k => R' k ∧ k < w'.heap.size, ⟨g1.bound, sApply_fine h2 ho, fun k hk => ⟨?_, hk.2⟩, h4.trans g3 fun k hk => .inr (h3 k hk).1⟩, fun k hk => g2 k hk.1⟩, g3⟩
  have := h4.size
  rcases g2 k hk.1 with h | h
  · exact (h3 k h).1
  · omega

theorem wfH : opH.wf := ⟨by decide, by decide, by decide, by decide, fun y hy => by cases hy⟩
theorem wfH2 : opH2.wf := ⟨by decide, by decide, by decide, by decide, fun y hy => by cases hy⟩
theorem wfF : opF.wf := ⟨by decide, by decide, by decide, by decide, fun y hy => by cases hy⟩
theorem wfF2 : opF2.wf := ⟨by decide, by decide, by decide, by decide, fun y hy => by cases hy⟩
theorem wfS : opS.wf := ⟨by decide, by decide, by decide, by decide, fun y hy => by simp [opS] at hy; subst hy; exact wf_w⟩
theorem live_H {w W : World} {R : Nat → Prop} {p : Nat} (h : Live w W R p SS.empty 0) : Calls Tryz.prog 13 #[.pointer (some ⟨p, 0, none⟩), .agg #[.int .u8 1, .int .u64 0, .int .u64 0, .slice none 0 0, .string ⟨#[110, 97, 109, 101]⟩, .int .u8 3, .bool false, .bool false, .bool false, .bool false, .bool false, .bool false, .string ⟨#[]⟩, .int .u64 0, .slice none 0 0, .slice none 0 0]] W (ApplyPost w W R p (s1, 0) 1) := by
  have := live_apply h (by decide) opH wfH ⟨none, 0, none, 0, none, 0⟩ 0 (RowsK.nil _ _ _ _) ⟨by decide, by decide, by decide⟩
  rw [step1] at this
  exact this
theorem live_H2 {w W : World} {R : Nat → Prop} {p : Nat} (h : Live w W R p s1 1) : Calls Tryz.prog 13 #[.pointer (some ⟨p, 0, none⟩), .agg #[.int .u8 1, .int .u64 0, .int .u64 0, .slice none 0 0, .string ⟨#[110, 97, 109, 101]⟩, .int .u8 2, .bool false, .bool false, .bool false, .bool false, .bool false, .bool false, .string ⟨#[]⟩, .int .u64 0, .slice none 0 0, .slice none 0 0]] W (ApplyPost w W R p (s1, 202) 2) := by
  have := live_apply h (by decide) opH2 wfH2 ⟨none, 0, none, 0, none, 0⟩ 0 (RowsK.nil _ _ _ _) ⟨by decide, by decide, by decide⟩
  rw [step2] at this
  exact this
theorem live_F {w W : World} {R : Nat → Prop} {p : Nat} (h : Live w W R p s2 3) : Calls Tryz.prog 13 #[.pointer (some ⟨p, 0, none⟩), .agg #[.int .u8 3, .int .u64 3, .int .u64 7, .slice none 0 0, .string ⟨#[]⟩, .int .u8 0, .bool false, .bool false, .bool false, .bool false, .bool false, .bool false, .string ⟨#[]⟩, .int .u64 0, .slice none 0 0, .slice none 0 0]] W (ApplyPost w W R p (s3, 0) 4) := by
  have := live_apply h (by decide) opF wfF ⟨none, 0, none, 0, none, 0⟩ 0 (RowsK.nil _ _ _ _) ⟨by decide, by decide, by decide⟩
  rw [step4] at this
  exact this
theorem live_F2 {w W : World} {R : Nat → Prop} {p : Nat} (h : Live w W R p s3 5) : Calls Tryz.prog 13 #[.pointer (some ⟨p, 0, none⟩), .agg #[.int .u8 3, .int .u64 6, .int .u64 9, .slice none 0 0, .string ⟨#[]⟩, .int .u8 0, .bool false, .bool false, .bool false, .bool false, .bool false, .bool false, .string ⟨#[]⟩, .int .u64 0, .slice none 0 0, .slice none 0 0]] W (ApplyPost w W R p (s3, 211) 6) := by
  have := live_apply h (by decide) opF2 wfF2 ⟨none, 0, none, 0, none, 0⟩ 0 (RowsK.nil _ _ _ _) ⟨by decide, by decide, by decide⟩
  rw [step6] at this
  exact this
theorem live_S {w W : World} {R : Nat → Prop} {p S : Nat} (h : Live w W R p s1 2) (hS : W.heap[S]? = some (.cells xW.enc.toArray 61 (0, 0))) : Calls Tryz.prog 13 #[.pointer (some ⟨p, 0, none⟩), .agg #[.int .u8 2, .int .u64 3, .int .u64 0, .slice (some ⟨S, 0, none⟩) 1 1, .string ⟨#[]⟩, .int .u8 0, .bool false, .bool false, .bool false, .bool false, .bool false, .bool false, .string ⟨#[]⟩, .int .u64 0, .slice none 0 0, .slice none 0 0]] W (ApplyPost w W R p (s2, 0) 3) := by
  have := live_apply h (by decide) opS wfS ⟨some ⟨S, 0, none⟩, 1, none, 0, none, 0⟩ S (row_of_block (enc := Wr.enc) (n := 8) xW hS rfl) ⟨by decide, by decide, by decide⟩
  rw [step3] at this
  exact this
theorem live_S2 {w W : World} {R : Nat → Prop} {p S : Nat} (h : Live w W R p s3 4) (hS : W.heap[S]? = some (.cells xW.enc.toArray 61 (0, 0))) : Calls Tryz.prog 13 #[.pointer (some ⟨p, 0, none⟩), .agg #[.int .u8 2, .int .u64 3, .int .u64 0, .slice (some ⟨S, 0, none⟩) 1 1, .string ⟨#[]⟩, .int .u8 0, .bool false, .bool false, .bool false, .bool false, .bool false, .bool false, .string ⟨#[]⟩, .int .u64 0, .slice none 0 0, .slice none 0 0]] W (ApplyPost w W R p (s3, 210) 5) := by
  have := live_apply h (by decide) opS wfS ⟨some ⟨S, 0, none⟩, 1, none, 0, none, 0⟩ S (row_of_block (enc := Wr.enc) (n := 8) xW hS rfl) ⟨by decide, by decide, by decide⟩
  rw [step5] at this
  exact this
end Go.Proofs.YtefepfiijoafbaaGreat
