/- May, its last part. May, its switch: all but the first case. -/
import Derived.Test.YtefepfiijoafbaaGreatQSMay
namespace Go.Proofs.YtefepfiijoafbaaGreat
open Go.RowKit Go.Shelf
attribute [local go_sem] Oper.semAt_some
set_option linter.unusedVariables false
set_option linter.unusedSimpArgs false

set_option maxRecDepth 100000 in
set_option maxHeartbeats 4000000 in
theorem may3 {Q : Exit → Act → World → Prop} (W : World) (f : Nat → Value) (B : Nat) (ok : Bool) (kd st cm : Int) (wa : Option Addr) (nw wc : Nat) (sp : ByteArray) (sy : Int) (sl se sm so sr sc : Bool) (pr : ByteArray) (at_ : Int) (ta : Option Addr) (nt tc : Nat) (pa : Option Addr) (np pc : Nat)
    (h3 : f 3 = .pointer (some ⟨B, 0, none⟩)) (h4 : f 4 = .bool ok) (hB : ∀ i, W.cell? ⟨B, i, none⟩ = (OpCells kd st cm wa nw wc sp sy sl se sm so sr sc pr at_ ta nt tc pa np pc)[i]?)
    (hQ : ∀ f' e, f' 2 = .int .i64 e → (ok = true ∧ st = 0 ∧ cm = 0 ∧ nw = 0 ∧ (sp.size = 0 ∧ sy = 0 ∧ sl = false ∧ se = false ∧ sm = false ∧ so = false ∧ sr = false ∧ sc = false) ∧ pr.size = 0 ∧ at_ = 0 ∧ nt = 0 ∧ np = 0 → e = 0) → (¬ (ok = true ∧ st = 0 ∧ cm = 0 ∧ nw = 0 ∧ (sp.size = 0 ∧ sy = 0 ∧ sl = false ∧ se = false ∧ sm = false ∧ so = false ∧ sr = false ∧ sc = false) ∧ pr.size = 0 ∧ at_ = 0 ∧ nt = 0 ∧ np = 0) → e = 200) → Q .ret (frA 149 f') W) :
    Code.wp Tryz.prog (mayB 3) Q (frA 149 f) W := by
  have HQ := Lib.hid hQ
  clear hQ
  show Code.wp _ _ _ { tmps := #[f 0, f 1, f 2, f 3, f 4, f 5, f 6, f 7, f 8, f 9, f 10, f 11, f 12, f 13, f 14, f 15, f 16, f 17, f 18, f 19, f 20, f 21, f 22, f 23, f 24, f 25, f 26, f 27, f 28, f 29, f 30, f 31, f 32, f 33, f 34, f 35, f 36, f 37, f 38, f 39, f 40, f 41, f 42, f 43, f 44, f 45, f 46, f 47, f 48, f 49, f 50, f 51, f 52, f 53, f 54, f 55, f 56, f 57, f 58, f 59, f 60, f 61, f 62, f 63, f 64, f 65, f 66, f 67, f 68, f 69, f 70, f 71, f 72, f 73, f 74, f 75, f 76, f 77, f 78, f 79, f 80, f 81, f 82, f 83, f 84, f 85, f 86, f 87, f 88, f 89, f 90, f 91, f 92, f 93, f 94, f 95, f 96, f 97, f 98, f 99, f 100, f 101, f 102, f 103, f 104, f 105, f 106, f 107, f 108, f 109, f 110, f 111, f 112, f 113, f 114, f 115, f 116, f 117, f 118, f 119, f 120, f 121, f 122, f 123, f 124, f 125, f 126, f 127, f 128, f 129, f 130, f 131, f 132, f 133, f 134, f 135, f 136, f 137, f 138, f 139, f 140, f 141, f 142, f 143, f 144, f 145, f 146, f 147, f 148], defers := [] } _
  rw [h3, h4]
  clear h3 h4
  conv => arg 2; whnf
  cases ok with
  | false =>
    go_wp2
    refine cut_useQ (n := 149) (Q := Q) (e := .ret) _ rfl ?_
    exact HQ.out _ _ rfl (fun h => by simp at h) (fun _ => rfl)
  | true =>
    go_wp2
    all_goals
      clear hB
      refine cut_useQ (n := 149) (Q := Q) (e := .ret) _ rfl ?_
      refine HQ.out _ _ rfl ?_ ?_
      all_goals
        clear HQ
        intro h
        first
          | rfl
          | (exfalso; simp_all [toList_nil]; done)
          | (exfalso; simp_all [toList_nil]; omega)
end Go.Proofs.YtefepfiijoafbaaGreat
namespace Go.Proofs.YtefepfiijoafbaaGreat
open Go.RowKit Go.Shelf
attribute [local go_sem] Oper.semAt_some
set_option linter.unusedVariables false
set_option linter.unusedSimpArgs false

abbrev CellsAt (W : World) (B : Nat) (cs : Array Value) : Prop := ∀ i, W.cell? ⟨B, i, none⟩ = cs[i]?
theorem setCell_cells {W : World} {B : Nat} {cs : Array Value} {t : TypeId} (h : W.heap[B]? = some (.cells cs t (0, 0))) (i : Nat) (v : Value) : (W.setCell ⟨B, i, none⟩ v).heap[B]? = some (.cells (cs.setIfInBounds i v) t (0, 0)) := heap_setCell_same W B i _ _ v h

set_option maxRecDepth 100000 in
set_option maxHeartbeats 4000000 in
/-- case api.ShardStage -/
theorem may2b {K : Act → World → Prop} {Q : Exit → Act → World → Prop} (W : World) (f : Nat → Value) (A B : Nat) (hAB : A ≠ B) (st cm : Int) (wa : Option Addr) (nw wc : Nat) (c : Sch) (pr : ByteArray) (at_ : Int) (ta : Option Addr) (nt tc : Nat) (pa : Option Addr) (np pc : Nat)
    (cx : Bool) (hC : ∀ W', Fr N0 W W' → nw ≤ 256 → Calls Tryz.prog 113 #[.slice wa nw wc, .func (.func 114) #[] #[]] W' fun e w'' => e = .returned (.bool cx) ∧ Fr N0 W' w'')
    (h1 : f 1 = .pointer (some ⟨A, 0, none⟩)) (h3 : f 3 = .pointer (some ⟨B, 0, none⟩)) (h4 : f 4 = .bool false)
    (hA : W.heap[A]? = some (.cells (OpCells 2 st cm wa nw wc c.pred c.ty c.list c.exact_ c.term c.order c.rev c.count pr at_ ta nt tc pa np pc) 38 (0, 0)))
    (hB : W.heap[B]? = some (.cells (OpCells 2 st cm wa nw wc c.pred c.ty c.list c.exact_ c.term c.order c.rev c.count pr at_ ta nt tc pa np pc) 38 (0, 0)))
    (hK : ∀ f' W' ok, f' 3 = f 3 → f' 4 = .bool ok → (ok = true ↔ 0 < st ∧ 0 < nw ∧ nw ≤ 256 ∧ cx = false) → CellsAt W' B (OpCells 2 0 cm none 0 0 c.pred c.ty c.list c.exact_ c.term c.order c.rev c.count pr at_ ta nt tc pa np pc) → Fr (fun j => j = B) W W' → K (frA 149 f') W') :
    Code.wp Tryz.prog (lvFst (mayB 2)) (Exit.then K Q) (frA 149 f) W := by
  obtain ⟨sp, sy, sl, se, sm, so, sr, sc⟩ := c
  obtain ⟨ma, na, la⟩ := box_cells hA
  obtain ⟨mb, nb, lb⟩ := box_cells hB
  have HK := Lib.hid hK; have HA := Lib.hid hA; have HB := Lib.hid hB
  have H3 := Lib.hid h3
  clear hK hA hB
  show Code.wp _ _ _ { tmps := #[f 0, f 1, f 2, f 3, f 4, f 5, f 6, f 7, f 8, f 9, f 10, f 11, f 12, f 13, f 14, f 15, f 16, f 17, f 18, f 19, f 20, f 21, f 22, f 23, f 24, f 25, f 26, f 27, f 28, f 29, f 30, f 31, f 32, f 33, f 34, f 35, f 36, f 37, f 38, f 39, f 40, f 41, f 42, f 43, f 44, f 45, f 46, f 47, f 48, f 49, f 50, f 51, f 52, f 53, f 54, f 55, f 56, f 57, f 58, f 59, f 60, f 61, f 62, f 63, f 64, f 65, f 66, f 67, f 68, f 69, f 70, f 71, f 72, f 73, f 74, f 75, f 76, f 77, f 78, f 79, f 80, f 81, f 82, f 83, f 84, f 85, f 86, f 87, f 88, f 89, f 90, f 91, f 92, f 93, f 94, f 95, f 96, f 97, f 98, f 99, f 100, f 101, f 102, f 103, f 104, f 105, f 106, f 107, f 108, f 109, f 110, f 111, f 112, f 113, f 114, f 115, f 116, f 117, f 118, f 119, f 120, f 121, f 122, f 123, f 124, f 125, f 126, f 127, f 128, f 129, f 130, f 131, f 132, f 133, f 134, f 135, f 136, f 137, f 138, f 139, f 140, f 141, f 142, f 143, f 144, f 145, f 146, f 147, f 148], defers := [] } _
  rw [h1, h3, h4]
  clear h1 h3 h4
  conv => arg 2; whnf
  simp only at ma mb
  have HC := Lib.hid hC
  clear hC
  have fin : ∀ (w1 : World) (tm : Array Value) (ok : Bool), tm.size = 149 → tm.getD 3 (.bool false) = .pointer (some ⟨B, 0, none⟩) → tm.getD 4 (.bool false) = .bool ok → Fr N0 W w1 → (ok = true ↔ 0 < st ∧ 0 < nw ∧ nw ≤ 256 ∧ cx = false) → K { tmps := tm, defers := [] } ((w1.setCell ⟨B, 1, none⟩ (.int .u64 0)).setCell ⟨B, 3, none⟩ (.slice none 0 0)) := fun w1 tm ok ht h3' h4' hf1 hok => by
    have hB1 := (hf1.at id lb).trans HB.out
    have e1 := heap_setCell_same w1 B 1 _ _ (Value.int .u64 0) hB1
    have e2 := heap_setCell_same _ B 3 _ _ (Value.slice none 0 0) e1
    refine cut_use (n := 149) (K := K) tm ht ?_
    exact HK.out _ _ ok (h3'.trans H3.out.symm) h4' hok (box_cells e2).1 (((hf1.mono (T' := fun j => j = B) fun _ h => h.elim).setCell (p := ⟨B, 1, none⟩) (.inl rfl) _).setCell (p := ⟨B, 3, none⟩) (.inl rfl) _)
  by_cases c1 : 0 < st
  · by_cases c2 : 0 < nw
    · by_cases c3 : nw ≤ 256
      · have c2' : (0 : Int) < (nw : Int) := by omega
        have c3' : (nw : Int) ≤ 256 := by omega
        go_wp2_with (go_at_call 113; refine (HC.out _ (Fr.refl _ _) c3).mono ?_; rintro e w1 ⟨rfl, hf1⟩; have hB1 := (hf1.at id lb).trans HB.out; obtain ⟨mb1, nb1, lb1⟩ := box_cells hB1)
        exact fin w1 _ (!cx) rfl rfl rfl hf1 (by cases cx <;> simp [c1, c2, c3])
      · have c2' : (0 : Int) < (nw : Int) := by omega
        have c3' : ¬ (nw : Int) ≤ 256 := by omega
        go_wp2
        exact fin W _ false rfl rfl rfl (Fr.refl _ _) (by simp [c3])
    · obtain rfl : nw = 0 := by omega
      go_wp2
      exact fin W _ false rfl rfl rfl (Fr.refl _ _) (by simp)
  · go_wp2
    exact fin W _ false rfl rfl rfl (Fr.refl _ _) ⟨fun h => (nomatch h), fun h => by have := h.1; omega⟩

set_option maxRecDepth 100000 in
set_option maxHeartbeats 4000000 in
/-- case api.ShardFinal -/
theorem may2c {K : Act → World → Prop} {Q : Exit → Act → World → Prop} (W : World) (f : Nat → Value) (A B : Nat) (hAB : A ≠ B) (st cm : Int) (wa : Option Addr) (nw wc : Nat) (c : Sch) (pr : ByteArray) (at_ : Int) (ta : Option Addr) (nt tc : Nat) (pa : Option Addr) (np pc : Nat)
    (h1 : f 1 = .pointer (some ⟨A, 0, none⟩)) (h3 : f 3 = .pointer (some ⟨B, 0, none⟩)) (h4 : f 4 = .bool false)
    (hA : W.heap[A]? = some (.cells (OpCells 3 st cm wa nw wc c.pred c.ty c.list c.exact_ c.term c.order c.rev c.count pr at_ ta nt tc pa np pc) 38 (0, 0)))
    (hB : W.heap[B]? = some (.cells (OpCells 3 st cm wa nw wc c.pred c.ty c.list c.exact_ c.term c.order c.rev c.count pr at_ ta nt tc pa np pc) 38 (0, 0)))
    (hK : ∀ f' W' ok, f' 3 = f 3 → f' 4 = .bool ok → (ok = true ↔ 0 < st ∧ (cm = 0 ∨ st < cm)) → CellsAt W' B (OpCells 3 0 0 wa nw wc c.pred c.ty c.list c.exact_ c.term c.order c.rev c.count pr at_ ta nt tc pa np pc) → Fr (fun j => j = B) W W' → K (frA 149 f') W') :
    Code.wp Tryz.prog (lvFst (mayB 2)) (Exit.then K Q) (frA 149 f) W := by
  obtain ⟨sp, sy, sl, se, sm, so, sr, sc⟩ := c
  obtain ⟨ma, na, la⟩ := box_cells hA
  obtain ⟨mb, nb, lb⟩ := box_cells hB
  have HK := Lib.hid hK; have HA := Lib.hid hA; have HB := Lib.hid hB
  have H3 := Lib.hid h3
  clear hK hA hB
  show Code.wp _ _ _ { tmps := #[f 0, f 1, f 2, f 3, f 4, f 5, f 6, f 7, f 8, f 9, f 10, f 11, f 12, f 13, f 14, f 15, f 16, f 17, f 18, f 19, f 20, f 21, f 22, f 23, f 24, f 25, f 26, f 27, f 28, f 29, f 30, f 31, f 32, f 33, f 34, f 35, f 36, f 37, f 38, f 39, f 40, f 41, f 42, f 43, f 44, f 45, f 46, f 47, f 48, f 49, f 50, f 51, f 52, f 53, f 54, f 55, f 56, f 57, f 58, f 59, f 60, f 61, f 62, f 63, f 64, f 65, f 66, f 67, f 68, f 69, f 70, f 71, f 72, f 73, f 74, f 75, f 76, f 77, f 78, f 79, f 80, f 81, f 82, f 83, f 84, f 85, f 86, f 87, f 88, f 89, f 90, f 91, f 92, f 93, f 94, f 95, f 96, f 97, f 98, f 99, f 100, f 101, f 102, f 103, f 104, f 105, f 106, f 107, f 108, f 109, f 110, f 111, f 112, f 113, f 114, f 115, f 116, f 117, f 118, f 119, f 120, f 121, f 122, f 123, f 124, f 125, f 126, f 127, f 128, f 129, f 130, f 131, f 132, f 133, f 134, f 135, f 136, f 137, f 138, f 139, f 140, f 141, f 142, f 143, f 144, f 145, f 146, f 147, f 148], defers := [] } _
  rw [h1, h3, h4]
  clear h1 h3 h4
  conv => arg 2; whnf
  simp only at ma mb
  have fin : ∀ (tm : Array Value) (ok : Bool), tm.size = 149 → tm.getD 3 (.bool false) = .pointer (some ⟨B, 0, none⟩) → tm.getD 4 (.bool false) = .bool ok → (ok = true ↔ 0 < st ∧ (cm = 0 ∨ st < cm)) → K { tmps := tm, defers := [] } ((W.setCell ⟨B, 1, none⟩ (.int .u64 0)).setCell ⟨B, 2, none⟩ (.int .u64 0)) := fun tm ok ht h3' h4' hok => by
    have e1 := heap_setCell_same W B 1 _ _ (Value.int .u64 0) HB.out
    have e2 := heap_setCell_same _ B 2 _ _ (Value.int .u64 0) e1
    refine cut_use (n := 149) (K := K) tm ht ?_
    exact HK.out _ _ ok (h3'.trans H3.out.symm) h4' hok (box_cells e2).1 (((Fr.refl (fun j => j = B) W).setCell (p := ⟨B, 1, none⟩) (.inl rfl) _).setCell (p := ⟨B, 2, none⟩) (.inl rfl) _)
  by_cases c1 : 0 < st
  · by_cases c2 : cm = 0
    · subst c2
      go_wp2
      exact fin _ true rfl rfl rfl (by simp [c1])
    · have c2' : (cm == 0) = false := by simpa using c2
      by_cases c3 : st < cm
      · go_wp2
        exact fin _ true rfl rfl rfl (by simp [c1, c3])
      · go_wp2
        exact fin _ false rfl rfl rfl (by simp [c2, c3])
  · go_wp2
    exact fin _ false rfl rfl rfl ⟨fun h => (nomatch h), fun h => by have := h.1; omega⟩

set_option maxRecDepth 100000 in
set_option maxHeartbeats 4000000 in
/-- no case -/
theorem may2d {K : Act → World → Prop} {Q : Exit → Act → World → Prop} (W : World) (f : Nat → Value) (A B : Nat) (hAB : A ≠ B) (kd st cm : Int) (wa : Option Addr) (nw wc : Nat) (c : Sch) (pr : ByteArray) (at_ : Int) (ta : Option Addr) (nt tc : Nat) (pa : Option Addr) (np pc : Nat)
    (k1 : kd ≠ 1) (k2 : kd ≠ 2) (k3 : kd ≠ 3) (k4 : kd ≠ 4) (k5 : kd ≠ 5) (k6 : kd ≠ 6)
    (h1 : f 1 = .pointer (some ⟨A, 0, none⟩)) (h3 : f 3 = .pointer (some ⟨B, 0, none⟩)) (h4 : f 4 = .bool false)
    (hA : W.heap[A]? = some (.cells (OpCells kd st cm wa nw wc c.pred c.ty c.list c.exact_ c.term c.order c.rev c.count pr at_ ta nt tc pa np pc) 38 (0, 0)))
    (hB : W.heap[B]? = some (.cells (OpCells kd st cm wa nw wc c.pred c.ty c.list c.exact_ c.term c.order c.rev c.count pr at_ ta nt tc pa np pc) 38 (0, 0)))
    (hK : ∀ f' W' ok, f' 3 = f 3 → f' 4 = .bool ok → (ok = true ↔ False) → CellsAt W' B (OpCells kd st cm wa nw wc c.pred c.ty c.list c.exact_ c.term c.order c.rev c.count pr at_ ta nt tc pa np pc) → Fr (fun j => j = B) W W' → K (frA 149 f') W') :
    Code.wp Tryz.prog (lvFst (mayB 2)) (Exit.then K Q) (frA 149 f) W := by
  obtain ⟨sp, sy, sl, se, sm, so, sr, sc⟩ := c
  obtain ⟨ma, na, la⟩ := box_cells hA
  obtain ⟨mb, nb, lb⟩ := box_cells hB
  have HK := Lib.hid hK; have HA := Lib.hid hA; have HB := Lib.hid hB
  have H3 := Lib.hid h3
  clear hK hA hB
  show Code.wp _ _ _ { tmps := #[f 0, f 1, f 2, f 3, f 4, f 5, f 6, f 7, f 8, f 9, f 10, f 11, f 12, f 13, f 14, f 15, f 16, f 17, f 18, f 19, f 20, f 21, f 22, f 23, f 24, f 25, f 26, f 27, f 28, f 29, f 30, f 31, f 32, f 33, f 34, f 35, f 36, f 37, f 38, f 39, f 40, f 41, f 42, f 43, f 44, f 45, f 46, f 47, f 48, f 49, f 50, f 51, f 52, f 53, f 54, f 55, f 56, f 57, f 58, f 59, f 60, f 61, f 62, f 63, f 64, f 65, f 66, f 67, f 68, f 69, f 70, f 71, f 72, f 73, f 74, f 75, f 76, f 77, f 78, f 79, f 80, f 81, f 82, f 83, f 84, f 85, f 86, f 87, f 88, f 89, f 90, f 91, f 92, f 93, f 94, f 95, f 96, f 97, f 98, f 99, f 100, f 101, f 102, f 103, f 104, f 105, f 106, f 107, f 108, f 109, f 110, f 111, f 112, f 113, f 114, f 115, f 116, f 117, f 118, f 119, f 120, f 121, f 122, f 123, f 124, f 125, f 126, f 127, f 128, f 129, f 130, f 131, f 132, f 133, f 134, f 135, f 136, f 137, f 138, f 139, f 140, f 141, f 142, f 143, f 144, f 145, f 146, f 147, f 148], defers := [] } _
  rw [h1, h3, h4]
  clear h1 h3 h4
  conv => arg 2; whnf
  simp only at ma mb
  have q1 : (kd == 1) = false := by simpa using k1
  have q2 : (kd == 2) = false := by simpa using k2
  have q3 : (kd == 3) = false := by simpa using k3
  have q4 : (kd == 4) = false := by simpa using k4
  have q5 : (kd == 5) = false := by simpa using k5
  have q6 : (kd == 6) = false := by simpa using k6
  clear k1 k2 k3 k4 k5 k6
  go_wp2
  refine cut_use (n := 149) (K := K) _ rfl ?_
  exact HK.out _ _ false H3.out.symm rfl (by simp) (box_cells HB.out).1 (Fr.refl _ _)
end Go.Proofs.YtefepfiijoafbaaGreat
