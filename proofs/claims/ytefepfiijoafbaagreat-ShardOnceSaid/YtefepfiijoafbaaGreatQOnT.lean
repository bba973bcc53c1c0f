/- ShardOnce: behind a final that gives up nothing more is seen: the test. ShardOnce: behind a final what was staged is seen, or is not: the loop. ShardOnce: one round over the commands. ShardOnce: one round over the commands, whole. ShardOnce: the loop over the commands. ShardOnce: the last loop, over the finals. ShardOnce, whole. -/
import Derived.Test.YtefepfiijoafbaaGreatQOnK
import Derived.Test.YtefepfiijoafbaaGreatQOnD
import Derived.Test.YtefepfiijoafbaaGreatQCut
import Derived.Test.YtefepfiijoafbaaGreatQLoA
import Derived.Test.YtefepfiijoafbaaGreatQLoD
namespace Go.Proofs.YtefepfiijoafbaaGreat
open Go.RowKit Go.Shelf Go.Maps
attribute [local go_sem] Oper.semAt_some
attribute [local go_sem ↓] Go.wp_at_zero Go.wp_at_succ
attribute [local irreducible] wpQuiet
set_option linter.unusedVariables false
set_option linter.unusedSimpArgs false

theorem times_c (W : World) (R : Nat → Prop) (p N : Nat) (q : ByteArray) (l : PL) (h : IsPL W R p l) (hf : l.Fine q N) (hN : N ≤ 100000) :
    Calls Tryz.prog 22 #[.pointer (some ⟨p, 0, none⟩)] W fun e w' => (∃ a c, e = .returned (.slice a l.times.length c)) ∧ Fr N0 W w' :=
  (times_any W R p l h hf.size' (by have := hf.times; omega)).mono fun e w' ⟨v, h1, h2, h3⟩ => ⟨by obtain ⟨a, c, rfl⟩ := slice_of_row h2; exact ⟨a, c, h1⟩, h3⟩

set_option maxRecDepth 100000 in
set_option maxHeartbeats 8000000 in
theorem on39b {K : Act → World → Prop} {Q : Exit → Act → World → Prop} (W : World) (Rx Rw : Nat → Prop) (px pw bo bg b off k n c N M : Nat) (s0 : SS) (q : ByteArray) (l : PL) (o : Op) (V : OpS) (f : Nat → Value) (Ds : List Nat) (hx : IsPL W Rx px l) (hfl : l.Fine q N) (hN : N ≤ 100000) (hc0 : o.commit = 0)
    (hwas : IsState W Rw pw s0 M) (hFw : s0.Fine M) (hM : M ≤ 100000) (hl0 : s0.lists q = some l)
    (hbg : W.heap[bg]? = some (.cells #[.slice (some ⟨b, off, none⟩) n c] 34 (0, 0))) (hkn : k < n) (hcp : W.cell? ⟨b, off + k * 8 + 2, none⟩ = some (.string q))
    (hbo : OpBox W bo o V) (h6 : f 6 = .pointer (some ⟨bo, 0, none⟩)) (h7 : f 7 = .pointer (some ⟨bg, 0, none⟩)) (h10 : f 10 = .pointer (some ⟨pw, 0, none⟩)) (h18 : f 18 = .int .i64 k) (h19 : f 19 = .pointer (some ⟨px, 0, none⟩))
    (hK : ∀ f' W', Keep [0, 2, 3, 4, 5, 6, 7, 10, 17, 18] f f' → Fr N0 W W' → K (frD 200 f' Ds) W') :
    Code.wp Tryz.prog (lvSnd (lvIn (lvFst (lvSnd onJ)))) (Exit.then K Q) (frD 200 f Ds) W := by
  have c2 := (box_cells hbo).1 2
  rw [opCells_eq] at c2
  simp only [List.getElem?_toArray, List.getElem?_cons_zero, List.getElem?_cons_succ] at c2
  rw [hc0] at c2
  have cg := cell_of_one hbg
  have hfl0 := hFw.lists q l hl0
  have hz := hfl0.size
  have ht1 : ∀ W', Cell3 W ⟨bo, 2, none⟩ ⟨bg, 0, none⟩ ⟨b, off + k * 8 + 2, none⟩ (.int .u64 0) (.slice (some ⟨b, off, none⟩) n c) (.string q) W' → Calls Tryz.prog 22 #[.pointer (some ⟨px, 0, none⟩)] W' fun e w' => (∃ a c, e = .returned (.slice a l.times.length c)) ∧ Fr N0 W' w' := fun W' h => times_c W' Rx px N q l (hx.fr h.2.2.2 fun _ _ => id) hfl hN
  have hli : ∀ W', Cell3 W ⟨bo, 2, none⟩ ⟨bg, 0, none⟩ ⟨b, off + k * 8 + 2, none⟩ (.int .u64 0) (.slice (some ⟨b, off, none⟩) n c) (.string q) W' → Calls Tryz.prog 18 #[.pointer (some ⟨pw, 0, none⟩), .string q] W' fun e w' => ∃ p', e = .returned (.pointer (some ⟨p', 0, none⟩)) ∧ IsPL w' (fun k => W'.heap.size ≤ k) p' l ∧ Fr N0 W' w' := fun W' h => sList_any W' Rw pw s0 M (hwas.fr h.2.2.2 fun _ _ => id) hFw hM q (by omega) l hl0
  have ht2 : ∀ W' p' (R' : Nat → Prop), IsPL W' R' p' l → Calls Tryz.prog 22 #[.pointer (some ⟨p', 0, none⟩)] W' fun e w' => (∃ a c, e = .returned (.slice a l.times.length c)) ∧ Fr N0 W' w' := fun W' p' R' h => times_c W' R' p' N q l h hfl hN
  obtain ⟨nt, hnt⟩ : ∃ x, l.times.length = x := ⟨_, rfl⟩
  rw [hnt] at ht1 ht2
  have hki : (k : Int) < (n : Int) := by omega
  have hcur : Cell3 W ⟨bo, 2, none⟩ ⟨bg, 0, none⟩ ⟨b, off + k * 8 + 2, none⟩ (.int .u64 0) (.slice (some ⟨b, off, none⟩) n c) (.string q) W.drew := cell3_keep (Fr.refl _ _).drew ⟨c2, cg, hcp, Fr.refl _ _⟩
  have HK := Lib.hid hK; have HT1 := Lib.hid ht1; have HT2 := Lib.hid ht2; have HLI := Lib.hid hli; have H6 := Lib.hid h6; have H7 := Lib.hid h7; have H10 := Lib.hid h10; have H18 := Lib.hid h18; have H19 := Lib.hid h19
  clear hK hx hfl hbo c2 hwas hFw hl0 hbg hcp hfl0 hz ht1 ht2 hli hnt cg hc0 hN hM
  show Code.wp _ _ _ { tmps := #[f 0, f 1, f 2, f 3, f 4, f 5, f 6, f 7, f 8, f 9, f 10, f 11, f 12, f 13, f 14, f 15, f 16, f 17, f 18, f 19, f 20, f 21, f 22, f 23, f 24, f 25, f 26, f 27, f 28, f 29, f 30, f 31, f 32, f 33, f 34, f 35, f 36, f 37, f 38, f 39, f 40, f 41, f 42, f 43, f 44, f 45, f 46, f 47, f 48, f 49, f 50, f 51, f 52, f 53, f 54, f 55, f 56, f 57, f 58, f 59, f 60, f 61, f 62, f 63, f 64, f 65, f 66, f 67, f 68, f 69, f 70, f 71, f 72, f 73, f 74, f 75, f 76, f 77, f 78, f 79, f 80, f 81, f 82, f 83, f 84, f 85, f 86, f 87, f 88, f 89, f 90, f 91, f 92, f 93, f 94, f 95, f 96, f 97, f 98, f 99, f 100, f 101, f 102, f 103, f 104, f 105, f 106, f 107, f 108, f 109, f 110, f 111, f 112, f 113, f 114, f 115, f 116, f 117, f 118, f 119, f 120, f 121, f 122, f 123, f 124, f 125, f 126, f 127, f 128, f 129, f 130, f 131, f 132, f 133, f 134, f 135, f 136, f 137, f 138, f 139, f 140, f 141, f 142, f 143, f 144, f 145, f 146, f 147, f 148, f 149, f 150, f 151, f 152, f 153, f 154, f 155, f 156, f 157, f 158, f 159, f 160, f 161, f 162, f 163, f 164, f 165, f 166, f 167, f 168, f 169, f 170, f 171, f 172, f 173, f 174, f 175, f 176, f 177, f 178, f 179, f 180, f 181, f 182, f 183, f 184, f 185, f 186, f 187, f 188, f 189, f 190, f 191, f 192, f 193, f 194, f 195, f 196, f 197, f 198, f 199], defers := marks Ds } _
  rw [h6, h7, h10, h18, h19]
  clear h6 h7 h10 h18 h19
  conv => arg 2; whnf
  refine wp_seq ?_
  refine wp_plainQ ?_
  refine wp_region_held_drew (S := Cell3 W ⟨bo, 2, none⟩ ⟨bg, 0, none⟩ ⟨b, off + k * 8 + 2, none⟩ (.int .u64 0) (.slice (some ⟨b, off, none⟩) n c) (.string q)) (by kernel_rfl) hcur ?_
  intro hHeld
  refine wpAnyH_take (i := 0) (oi := { dst := some 139, op := Op.move (Operand.tmp 19), type := 51, pos := "law.go:320", after := #[], guard := none }) (v := ?_) rfl (by kernel_rfl) (by kernel_rfl) (by kernel_rfl) (fun _ _ _ h => h) (Or.inl ⟨by rfl, ?_⟩) (by assumption) ?_
  rotate_left 1
  · (intro w hSw; (try dsimp only at hSw); go_simp; try with_reducible rfl)
  (try simp only [Act.put, List.setIfInBounds_toArray, List.set_cons_zero, List.set_cons_succ])
  refine wpAnyH_take (i := 1) (oi := { dst := some 140, op := Op.binOp BinOp.eql 51 (Operand.tmp 139) (Operand.const (Value.pointer none)) 51, type := 4, pos := "law.go:320", after := #[{ on := 0, ground := Ground.data }], guard := none }) (v := ?_) rfl (by kernel_rfl) (by kernel_rfl) (by kernel_rfl) (fun _ _ _ h => h) (Or.inl ⟨by rfl, ?_⟩) (by assumption) ?_
  rotate_left 1
  · (intro w hSw; (try dsimp only at hSw); go_simp; try with_reducible rfl)
  (try simp only [Act.put, List.setIfInBounds_toArray, List.set_cons_zero, List.set_cons_succ])
  refine wpAnyH_take (i := 2) (oi := { dst := some 141, op := Op.move (Operand.tmp 140), type := 4, pos := "law.go:320", after := #[{ on := 1, ground := Ground.data }], guard := none }) (v := ?_) rfl (by kernel_rfl) (by kernel_rfl) (by kernel_rfl) (fun _ _ _ h => h) (Or.inl ⟨by rfl, ?_⟩) (by assumption) ?_
  rotate_left 1
  · (intro w hSw; (try dsimp only at hSw); go_simp; try with_reducible rfl)
  (try simp only [Act.put, List.setIfInBounds_toArray, List.set_cons_zero, List.set_cons_succ])
  refine wpAnyH_take (i := 3) (oi := { dst := some 142, op := Op.fieldAddr 38 (Operand.tmp 6) 2, type := 0, pos := "law.go:320", after := #[{ on := 2, ground := Ground.guard }], guard := some (2, false) }) (v := ?_) rfl (by kernel_rfl) (by kernel_rfl) (by kernel_rfl) (fun _ _ _ h => h) (Or.inl ⟨by rfl, ?_⟩) (by assumption) ?_
  rotate_left 1
  · (intro w hSw; (try dsimp only at hSw); go_simp; try with_reducible rfl)
  (try simp only [Act.put, List.setIfInBounds_toArray, List.set_cons_zero, List.set_cons_succ])
  refine wpAnyH_take (i := 4) (oi := { dst := some 143, op := Op.load 33 (Operand.tmp 142), type := 33, pos := "law.go:320", after := #[{ on := 3, ground := Ground.data }, { on := 2, ground := Ground.guard }], guard := some (2, false) }) (v := ?_) rfl (by kernel_rfl) (by kernel_rfl) (by kernel_rfl) (fun _ _ _ h => h) (Or.inl ⟨by rfl, ?_⟩) (by assumption) ?_
  rotate_left 1
  · (intro w hSw; (try dsimp only at hSw); go_simp; try with_reducible rfl)
  (try simp only [Act.put, List.setIfInBounds_toArray, List.set_cons_zero, List.set_cons_succ])
  refine wpAnyH_take (i := 5) (oi := { dst := some 144, op := Op.binOp BinOp.neq 33 (Operand.tmp 143) (Operand.const (Value.int IntKind.u64 0)) 33, type := 4, pos := "law.go:320", after := #[{ on := 4, ground := Ground.data }, { on := 2, ground := Ground.guard }], guard := some (2, false) }) (v := ?_) rfl (by kernel_rfl) (by kernel_rfl) (by kernel_rfl) (fun _ _ _ h => h) (Or.inl ⟨by rfl, ?_⟩) (by assumption) ?_
  rotate_left 1
  · (intro w hSw; (try dsimp only at hSw); go_simp; try with_reducible rfl)
  (try simp only [Act.put, List.setIfInBounds_toArray, List.set_cons_zero, List.set_cons_succ])
  refine wpAnyH_take (i := 6) (oi := { dst := some 145, op := Op.move (Operand.tmp 144), type := 4, pos := "law.go:320", after := #[{ on := 5, ground := Ground.data }, { on := 2, ground := Ground.chain }, { on := 2, ground := Ground.guard }], guard := some (2, false) }) (v := ?_) rfl (by kernel_rfl) (by kernel_rfl) (by kernel_rfl) (fun _ _ _ h => h) (Or.inl ⟨by rfl, ?_⟩) (by assumption) ?_
  rotate_left 1
  · (intro w hSw; (try dsimp only at hSw); go_simp; try with_reducible rfl)
  (try simp only [Act.put, List.setIfInBounds_toArray, List.set_cons_zero, List.set_cons_succ])
  refine wpAnyH_take (i := 7) (oi := { dst := some 146, op := Op.move (Operand.tmp 19), type := 51, pos := "law.go:320", after := #[{ on := 6, ground := Ground.guard }], guard := some (6, true) }) (v := undef) rfl (by kernel_rfl) (by kernel_rfl) (by kernel_rfl) (fun _ _ _ h => h) (Or.inr ⟨by rfl, rfl⟩) (by assumption) ?_
  (try simp only [Act.put, List.setIfInBounds_toArray, List.set_cons_zero, List.set_cons_succ])
  refine wpAnyH_take (i := 8) (oi := { dst := some 147, op := Op.fieldAddr 38 (Operand.tmp 6) 2, type := 0, pos := "law.go:320", after := #[{ on := 6, ground := Ground.guard }], guard := some (6, true) }) (v := undef) rfl (by kernel_rfl) (by kernel_rfl) (by kernel_rfl) (fun _ _ _ h => h) (Or.inr ⟨by rfl, rfl⟩) (by assumption) ?_
  (try simp only [Act.put, List.setIfInBounds_toArray, List.set_cons_zero, List.set_cons_succ])
  refine wpAnyH_take (i := 9) (oi := { dst := some 148, op := Op.load 33 (Operand.tmp 147), type := 33, pos := "law.go:320", after := #[{ on := 8, ground := Ground.data }, { on := 6, ground := Ground.guard }], guard := some (6, true) }) (v := undef) rfl (by kernel_rfl) (by kernel_rfl) (by kernel_rfl) (fun _ _ _ h => h) (Or.inr ⟨by rfl, rfl⟩) (by assumption) ?_
  (try simp only [Act.put, List.setIfInBounds_toArray, List.set_cons_zero, List.set_cons_succ])
  refine wpAnyH_take (i := 10) (oi := { dst := some 149, op := Op.call { callee := Callee.value (Operand.func 21), args := #[Operand.tmp 146, Operand.tmp 148], argTypes := #[51, 33] }, type := 3, pos := "law.go:320", after := #[{ on := 7, ground := Ground.data }, { on := 9, ground := Ground.data }, { on := 6, ground := Ground.chain }, { on := 6, ground := Ground.guard }], guard := some (6, true) }) (v := undef) rfl (by kernel_rfl) (by kernel_rfl) (by kernel_rfl) (fun _ _ _ h => h) (Or.inr ⟨by rfl, rfl⟩) (by assumption) ?_
  (try simp only [Act.put, List.setIfInBounds_toArray, List.set_cons_zero, List.set_cons_succ])
  refine wpAnyH_take (i := 11) (oi := { dst := some 150, op := Op.move (Operand.tmp 19), type := 51, pos := "law.go:320", after := #[{ on := 6, ground := Ground.guard }], guard := some (6, true) }) (v := undef) rfl (by kernel_rfl) (by kernel_rfl) (by kernel_rfl) (fun _ _ _ h => h) (Or.inr ⟨by rfl, rfl⟩) (by assumption) ?_
  (try simp only [Act.put, List.setIfInBounds_toArray, List.set_cons_zero, List.set_cons_succ])
  refine wpAnyH_take (i := 12) (oi := { dst := some 151, op := Op.fieldAddr 38 (Operand.tmp 6) 2, type := 0, pos := "law.go:320", after := #[{ on := 6, ground := Ground.guard }], guard := some (6, true) }) (v := undef) rfl (by kernel_rfl) (by kernel_rfl) (by kernel_rfl) (fun _ _ _ h => h) (Or.inr ⟨by rfl, rfl⟩) (by assumption) ?_
  (try simp only [Act.put, List.setIfInBounds_toArray, List.set_cons_zero, List.set_cons_succ])
  refine wpAnyH_take (i := 13) (oi := { dst := some 152, op := Op.load 33 (Operand.tmp 151), type := 33, pos := "law.go:320", after := #[{ on := 12, ground := Ground.data }, { on := 6, ground := Ground.guard }], guard := some (6, true) }) (v := undef) rfl (by kernel_rfl) (by kernel_rfl) (by kernel_rfl) (fun _ _ _ h => h) (Or.inr ⟨by rfl, rfl⟩) (by assumption) ?_
  (try simp only [Act.put, List.setIfInBounds_toArray, List.set_cons_zero, List.set_cons_succ])
  refine wpAnyH_take (i := 14) (oi := { dst := some 153, op := Op.binOp BinOp.sub 33 (Operand.tmp 152) (Operand.const (Value.int IntKind.u64 1)) 33, type := 33, pos := "law.go:320", after := #[{ on := 13, ground := Ground.data }, { on := 6, ground := Ground.guard }], guard := some (6, true) }) (v := undef) rfl (by kernel_rfl) (by kernel_rfl) (by kernel_rfl) (fun _ _ _ h => h) (Or.inr ⟨by rfl, rfl⟩) (by assumption) ?_
  (try simp only [Act.put, List.setIfInBounds_toArray, List.set_cons_zero, List.set_cons_succ])
  refine wpAnyH_take (i := 15) (oi := { dst := some 154, op := Op.call { callee := Callee.value (Operand.func 21), args := #[Operand.tmp 150, Operand.tmp 153], argTypes := #[51, 33] }, type := 3, pos := "law.go:320", after := #[{ on := 11, ground := Ground.data }, { on := 14, ground := Ground.data }, { on := 10, ground := Ground.chain }, { on := 6, ground := Ground.guard }], guard := some (6, true) }) (v := undef) rfl (by kernel_rfl) (by kernel_rfl) (by kernel_rfl) (fun _ _ _ h => h) (Or.inr ⟨by rfl, rfl⟩) (by assumption) ?_
  (try simp only [Act.put, List.setIfInBounds_toArray, List.set_cons_zero, List.set_cons_succ])
  refine wpAnyH_take (i := 16) (oi := { dst := some 155, op := Op.binOp BinOp.add 3 (Operand.tmp 154) (Operand.const (Value.int IntKind.i64 1)) 3, type := 3, pos := "law.go:320", after := #[{ on := 15, ground := Ground.data }, { on := 6, ground := Ground.guard }], guard := some (6, true) }) (v := undef) rfl (by kernel_rfl) (by kernel_rfl) (by kernel_rfl) (fun _ _ _ h => h) (Or.inr ⟨by rfl, rfl⟩) (by assumption) ?_
  (try simp only [Act.put, List.setIfInBounds_toArray, List.set_cons_zero, List.set_cons_succ])
  refine wpAnyH_take (i := 17) (oi := { dst := some 156, op := Op.binOp BinOp.neq 3 (Operand.tmp 149) (Operand.tmp 155) 3, type := 4, pos := "law.go:320", after := #[{ on := 10, ground := Ground.data }, { on := 16, ground := Ground.data }, { on := 6, ground := Ground.guard }], guard := some (6, true) }) (v := undef) rfl (by kernel_rfl) (by kernel_rfl) (by kernel_rfl) (fun _ _ _ h => h) (Or.inr ⟨by rfl, rfl⟩) (by assumption) ?_
  (try simp only [Act.put, List.setIfInBounds_toArray, List.set_cons_zero, List.set_cons_succ])
  refine wpAnyH_take (i := 18) (oi := { dst := some 157, op := Op.pick (Operand.tmp 145) (Operand.tmp 156) (Operand.const (Value.bool false)), type := 4, pos := "law.go:320", after := #[{ on := 6, ground := Ground.data }, { on := 17, ground := Ground.data }, { on := 2, ground := Ground.guard }], guard := some (2, false) }) (v := ?_) rfl (by kernel_rfl) (by kernel_rfl) (by kernel_rfl) (fun _ _ _ h => h) (Or.inl ⟨by rfl, ?_⟩) (by assumption) ?_
  rotate_left 1
  · (intro w hSw; (try dsimp only at hSw); go_simp; try with_reducible rfl)
  (try simp only [Act.put, List.setIfInBounds_toArray, List.set_cons_zero, List.set_cons_succ])
  refine wpAnyH_take (i := 19) (oi := { dst := some 158, op := Op.pick (Operand.tmp 141) (Operand.const (Value.bool true)) (Operand.tmp 157), type := 4, pos := "law.go:320", after := #[{ on := 2, ground := Ground.data }, { on := 18, ground := Ground.data }], guard := none }) (v := ?_) rfl (by kernel_rfl) (by kernel_rfl) (by kernel_rfl) (fun _ _ _ h => h) (Or.inl ⟨by rfl, ?_⟩) (by assumption) ?_
  rotate_left 1
  · (intro w hSw; (try dsimp only at hSw); go_simp; try with_reducible rfl)
  (try simp only [Act.put, List.setIfInBounds_toArray, List.set_cons_zero, List.set_cons_succ])
  refine wpAnyH_take (i := 20) (oi := { dst := some 159, op := Op.move (Operand.tmp 158), type := 4, pos := "law.go:320", after := #[{ on := 19, ground := Ground.data }, { on := 15, ground := Ground.chain }], guard := none }) (v := ?_) rfl (by kernel_rfl) (by kernel_rfl) (by kernel_rfl) (fun _ _ _ h => h) (Or.inl ⟨by rfl, ?_⟩) (by assumption) ?_
  rotate_left 1
  · (intro w hSw; (try dsimp only at hSw); go_simp; try with_reducible rfl)
  (try simp only [Act.put, List.setIfInBounds_toArray, List.set_cons_zero, List.set_cons_succ])
  refine wpAnyH_take (i := 21) (oi := { dst := some 160, op := Op.fieldAddr 38 (Operand.tmp 6) 2, type := 0, pos := "law.go:320", after := #[{ on := 20, ground := Ground.guard }], guard := some (20, false) }) (v := ?_) rfl (by kernel_rfl) (by kernel_rfl) (by kernel_rfl) (fun _ _ _ h => h) (Or.inl ⟨by rfl, ?_⟩) (by assumption) ?_
  rotate_left 1
  · (intro w hSw; (try dsimp only at hSw); go_simp; try with_reducible rfl)
  (try simp only [Act.put, List.setIfInBounds_toArray, List.set_cons_zero, List.set_cons_succ])
  refine wpAnyH_take (i := 22) (oi := { dst := some 161, op := Op.load 33 (Operand.tmp 160), type := 33, pos := "law.go:320", after := #[{ on := 21, ground := Ground.data }, { on := 20, ground := Ground.guard }], guard := some (20, false) }) (v := ?_) rfl (by kernel_rfl) (by kernel_rfl) (by kernel_rfl) (fun _ _ _ h => h) (Or.inl ⟨by rfl, ?_⟩) (by assumption) ?_
  rotate_left 1
  · (intro w hSw; (try dsimp only at hSw); go_simp; try with_reducible rfl)
  (try simp only [Act.put, List.setIfInBounds_toArray, List.set_cons_zero, List.set_cons_succ])
  refine wpAnyH_take (i := 23) (oi := { dst := some 162, op := Op.binOp BinOp.eql 33 (Operand.tmp 161) (Operand.const (Value.int IntKind.u64 0)) 33, type := 4, pos := "law.go:320", after := #[{ on := 22, ground := Ground.data }, { on := 20, ground := Ground.guard }], guard := some (20, false) }) (v := ?_) rfl (by kernel_rfl) (by kernel_rfl) (by kernel_rfl) (fun _ _ _ h => h) (Or.inl ⟨by rfl, ?_⟩) (by assumption) ?_
  rotate_left 1
  · (intro w hSw; (try dsimp only at hSw); go_simp; try with_reducible rfl)
  (try simp only [Act.put, List.setIfInBounds_toArray, List.set_cons_zero, List.set_cons_succ])
  refine wpAnyH_take (i := 24) (oi := { dst := some 163, op := Op.move (Operand.tmp 162), type := 4, pos := "law.go:320", after := #[{ on := 23, ground := Ground.data }, { on := 20, ground := Ground.chain }, { on := 20, ground := Ground.guard }], guard := some (20, false) }) (v := ?_) rfl (by kernel_rfl) (by kernel_rfl) (by kernel_rfl) (fun _ _ _ h => h) (Or.inl ⟨by rfl, ?_⟩) (by assumption) ?_
  rotate_left 1
  · (intro w hSw; (try dsimp only at hSw); go_simp; try with_reducible rfl)
  (try simp only [Act.put, List.setIfInBounds_toArray, List.set_cons_zero, List.set_cons_succ])
  refine wpAnyH_take (i := 25) (oi := { dst := some 164, op := Op.move (Operand.tmp 19), type := 51, pos := "law.go:320", after := #[{ on := 24, ground := Ground.guard }], guard := some (24, true) }) (v := ?_) rfl (by kernel_rfl) (by kernel_rfl) (by kernel_rfl) (fun _ _ _ h => h) (Or.inl ⟨by rfl, ?_⟩) (by assumption) ?_
  rotate_left 1
  · (intro w hSw; (try dsimp only at hSw); go_simp; try with_reducible rfl)
  (try simp only [Act.put, List.setIfInBounds_toArray, List.set_cons_zero, List.set_cons_succ])
  refine wpAnyH_take (i := 28) (oi := { dst := some 167, op := Op.move (Operand.tmp 10), type := 27, pos := "law.go:320", after := #[{ on := 24, ground := Ground.guard }], guard := some (24, true) }) (v := ?_) rfl (by kernel_rfl) (by kernel_rfl) (by kernel_rfl) (fun _ _ _ h => h) (Or.inl ⟨by rfl, ?_⟩) (by assumption) ?_
  rotate_left 1
  · (intro w hSw; (try dsimp only at hSw); go_simp; try with_reducible rfl)
  (try simp only [Act.put, List.setIfInBounds_toArray, List.set_cons_zero, List.set_cons_succ])
  refine wpAnyH_take (i := 29) (oi := { dst := some 168, op := Op.load 34 (Operand.tmp 7), type := 34, pos := "law.go:320", after := #[{ on := 24, ground := Ground.guard }], guard := some (24, true) }) (v := ?_) rfl (by kernel_rfl) (by kernel_rfl) (by kernel_rfl) (fun _ _ _ h => h) (Or.inl ⟨by rfl, ?_⟩) (by assumption) ?_
  rotate_left 1
  · (intro w hSw; (try dsimp only at hSw); go_simp; try with_reducible rfl)
  (try simp only [Act.put, List.setIfInBounds_toArray, List.set_cons_zero, List.set_cons_succ])
  refine wpAnyH_take (i := 30) (oi := { dst := some 169, op := Op.move (Operand.tmp 18), type := 3, pos := "law.go:320", after := #[{ on := 24, ground := Ground.guard }], guard := some (24, true) }) (v := ?_) rfl (by kernel_rfl) (by kernel_rfl) (by kernel_rfl) (fun _ _ _ h => h) (Or.inl ⟨by rfl, ?_⟩) (by assumption) ?_
  rotate_left 1
  · (intro w hSw; (try dsimp only at hSw); go_simp; try with_reducible rfl)
  (try simp only [Act.put, List.setIfInBounds_toArray, List.set_cons_zero, List.set_cons_succ])
  refine wpAnyH_take (i := 31) (oi := { dst := some 170, op := Op.indexAddr 34 (Operand.tmp 168) (Operand.tmp 169), type := 0, pos := "law.go:320", after := #[{ on := 29, ground := Ground.data }, { on := 30, ground := Ground.data }, { on := 24, ground := Ground.guard }], guard := some (24, true) }) (v := ?_) rfl (by kernel_rfl) (by kernel_rfl) (by kernel_rfl) (fun _ _ _ h => h) (Or.inl ⟨by rfl, ?_⟩) (by assumption) ?_
  rotate_left 1
  · (intro w hSw; (try dsimp only at hSw); go_simp; try with_reducible rfl)
  (try simp only [Act.put, List.setIfInBounds_toArray, List.set_cons_zero, List.set_cons_succ])
  refine wpAnyH_take (i := 32) (oi := { dst := some 171, op := Op.fieldAddr 61 (Operand.tmp 170) 1, type := 0, pos := "law.go:320", after := #[{ on := 31, ground := Ground.data }, { on := 24, ground := Ground.guard }], guard := some (24, true) }) (v := ?_) rfl (by kernel_rfl) (by kernel_rfl) (by kernel_rfl) (fun _ _ _ h => h) (Or.inl ⟨by rfl, ?_⟩) (by assumption) ?_
  rotate_left 1
  · (intro w hSw; (try dsimp only at hSw); go_simp; try with_reducible rfl)
  (try simp only [Act.put, List.setIfInBounds_toArray, List.set_cons_zero, List.set_cons_succ])
  refine wpAnyH_take (i := 33) (oi := { dst := some 172, op := Op.fieldAddr 59 (Operand.tmp 171) 1, type := 0, pos := "law.go:320", after := #[{ on := 32, ground := Ground.data }, { on := 24, ground := Ground.guard }], guard := some (24, true) }) (v := ?_) rfl (by kernel_rfl) (by kernel_rfl) (by kernel_rfl) (fun _ _ _ h => h) (Or.inl ⟨by rfl, ?_⟩) (by assumption) ?_
  rotate_left 1
  · (intro w hSw; (try dsimp only at hSw); go_simp; try with_reducible rfl)
  (try simp only [Act.put, List.setIfInBounds_toArray, List.set_cons_zero, List.set_cons_succ])
  refine wpAnyH_take (i := 34) (oi := { dst := some 173, op := Op.load 9 (Operand.tmp 172), type := 9, pos := "law.go:320", after := #[{ on := 33, ground := Ground.data }, { on := 24, ground := Ground.guard }], guard := some (24, true) }) (v := ?_) rfl (by kernel_rfl) (by kernel_rfl) (by kernel_rfl) (fun _ _ _ h => h) (Or.inl ⟨by rfl, ?_⟩) (by assumption) ?_
  rotate_left 1
  · (intro w hSw; (try dsimp only at hSw); go_simp; try with_reducible rfl)
  (try simp only [Act.put, List.setIfInBounds_toArray, List.set_cons_zero, List.set_cons_succ])
  refine wpAnyH_ready (rs := [26]) (by kernel_rfl) (by simp) ?_
  refine AllReadyH.cons (o := { dst := some 165, op := Op.call { callee := Callee.value (Operand.func 22), args := #[Operand.tmp 164], argTypes := #[51] }, type := 35, pos := "law.go:320", after := #[{ on := 25, ground := Ground.data }, { on := 24, ground := Ground.chain }, { on := 24, ground := Ground.guard }], guard := some (24, true) }) rfl (fun K' hK' => ?_) ?_
  · go_simp
    refine (HT1.out _ hcur).mono ?_
    rintro e wq ⟨⟨aq, cq, rfl⟩, hfq⟩
    replace hcur := cell3_keep hfq hcur
    try replace hpy := hpy.fr hfq fun _ _ => id
    (try dsimp only)
    refine hK'.out _ _ hcur (fun hHeld => ?_)
    clear hK' K' hfq
    (try simp only [Act.put, List.setIfInBounds_toArray, List.set_cons_zero, List.set_cons_succ])
    refine wpAnyH_take (i := 27) (oi := { dst := some 166, op := Op.call { callee := Callee.builtin Builtin.len, args := #[Operand.tmp 165], argTypes := #[35] }, type := 3, pos := "law.go:320", after := #[{ on := 26, ground := Ground.data }, { on := 24, ground := Ground.guard }], guard := some (24, true) }) (v := ?_) rfl (by kernel_rfl) (by kernel_rfl) (by kernel_rfl) (fun _ _ _ h => h) (Or.inl ⟨by rfl, ?_⟩) (by assumption) ?_
    rotate_left 1
    · (intro w hSw; (try dsimp only at hSw); go_simp; try with_reducible rfl)
    (try simp only [Act.put, List.setIfInBounds_toArray, List.set_cons_zero, List.set_cons_succ])
    refine wpAnyH_ready (rs := [35]) (by kernel_rfl) (by simp) ?_
    refine AllReadyH.cons (o := { dst := some 174, op := Op.call { callee := Callee.value (Operand.func 18), args := #[Operand.tmp 167, Operand.tmp 173], argTypes := #[27, 9] }, type := 51, pos := "law.go:320", after := #[{ on := 28, ground := Ground.data }, { on := 34, ground := Ground.data }, { on := 26, ground := Ground.chain }, { on := 24, ground := Ground.guard }], guard := some (24, true) }) rfl (fun K' hK' => ?_) ?_
    · go_simp
      refine (HLI.out _ hcur).mono ?_
      rintro e wq ⟨py, rfl, hpy, hfq⟩
      replace hcur := cell3_keep hfq hcur
      (try dsimp only)
      refine hK'.out _ _ hcur (fun hHeld => ?_)
      clear hK' K' hfq
      (try simp only [Act.put, List.setIfInBounds_toArray, List.set_cons_zero, List.set_cons_succ])
      refine wpAnyH_ready (rs := [36]) (by kernel_rfl) (by simp) ?_
      refine AllReadyH.cons (o := { dst := some 175, op := Op.call { callee := Callee.value (Operand.func 22), args := #[Operand.tmp 174], argTypes := #[51] }, type := 35, pos := "law.go:320", after := #[{ on := 35, ground := Ground.data }, { on := 35, ground := Ground.chain }, { on := 24, ground := Ground.guard }], guard := some (24, true) }) rfl (fun K' hK' => ?_) ?_
      · go_simp
        refine (HT2.out _ _ _ hpy).mono ?_
        rintro e wq ⟨⟨ar, cr, rfl⟩, hfq⟩
        replace hcur := cell3_keep hfq hcur
        (try dsimp only)
        refine hK'.out _ _ hcur (fun hHeld => ?_)
        clear hK' K' hfq
        (try simp only [Act.put, List.setIfInBounds_toArray, List.set_cons_zero, List.set_cons_succ])
        refine wpAnyH_take (i := 37) (oi := { dst := some 176, op := Op.call { callee := Callee.builtin Builtin.len, args := #[Operand.tmp 175], argTypes := #[35] }, type := 3, pos := "law.go:320", after := #[{ on := 36, ground := Ground.data }, { on := 24, ground := Ground.guard }], guard := some (24, true) }) (v := ?_) rfl (by kernel_rfl) (by kernel_rfl) (by kernel_rfl) (fun _ _ _ h => h) (Or.inl ⟨by rfl, ?_⟩) (by assumption) ?_
        rotate_left 1
        · (intro w hSw; (try dsimp only at hSw); go_simp; try with_reducible rfl)
        (try simp only [Act.put, List.setIfInBounds_toArray, List.set_cons_zero, List.set_cons_succ])
        refine wpAnyH_take (i := 38) (oi := { dst := some 177, op := Op.binOp BinOp.neq 3 (Operand.tmp 166) (Operand.tmp 176) 3, type := 4, pos := "law.go:320", after := #[{ on := 27, ground := Ground.data }, { on := 37, ground := Ground.data }, { on := 24, ground := Ground.guard }], guard := some (24, true) }) (v := ?_) rfl (by kernel_rfl) (by kernel_rfl) (by kernel_rfl) (fun _ _ _ h => h) (Or.inl ⟨by rfl, ?_⟩) (by assumption) ?_
        rotate_left 1
        · (intro w hSw; (try dsimp only at hSw); go_simp; try with_reducible rfl)
        (try simp only [Act.put, List.setIfInBounds_toArray, List.set_cons_zero, List.set_cons_succ])
        refine wpAnyH_take (i := 39) (oi := { dst := some 178, op := Op.pick (Operand.tmp 163) (Operand.tmp 177) (Operand.const (Value.bool false)), type := 4, pos := "law.go:320", after := #[{ on := 24, ground := Ground.data }, { on := 38, ground := Ground.data }, { on := 20, ground := Ground.guard }], guard := some (20, false) }) (v := ?_) rfl (by kernel_rfl) (by kernel_rfl) (by kernel_rfl) (fun _ _ _ h => h) (Or.inl ⟨by rfl, ?_⟩) (by assumption) ?_
        rotate_left 1
        · (intro w hSw; (try dsimp only at hSw); go_simp; try with_reducible rfl)
        (try simp only [Act.put, List.setIfInBounds_toArray, List.set_cons_zero, List.set_cons_succ])
        refine wpAnyH_take (i := 40) (oi := { dst := some 179, op := Op.pick (Operand.tmp 159) (Operand.const (Value.bool true)) (Operand.tmp 178), type := 4, pos := "law.go:320", after := #[{ on := 20, ground := Ground.data }, { on := 39, ground := Ground.data }], guard := none }) (v := ?_) rfl (by kernel_rfl) (by kernel_rfl) (by kernel_rfl) (fun _ _ _ h => h) (Or.inl ⟨by rfl, ?_⟩) (by assumption) ?_
        rotate_left 1
        · (intro w hSw; (try dsimp only at hSw); go_simp; try with_reducible rfl)
        (try simp only [Act.put, List.setIfInBounds_toArray, List.set_cons_zero, List.set_cons_succ])
        refine wpAnyH_done (by kernel_rfl) ?_ _
        have HCF := Lib.hid hcur.2.2.2
        clear hcur hHeld
        show Code.wp _ _ _ _ _
        go_wp2_with fail
        refine cut_useD (n := 200) (K := K) _ rfl ?_
        exact HK.out _ _ (keep_mk (by simp only [List.map_cons, List.map_nil, H6.out, H7.out, H10.out, H18.out]; rfl)) HCF.out
      · exact AllReadyH.nil
    · exact AllReadyH.nil
  · exact AllReadyH.nil
end Go.Proofs.YtefepfiijoafbaaGreat
namespace Go.Proofs.YtefepfiijoafbaaGreat
open Go.RowKit Go.Shelf Go.Maps
attribute [local go_sem] Oper.semAt_some
attribute [local go_sem ↓] Go.wp_at_zero Go.wp_at_succ
attribute [local irreducible] wpQuiet
set_option linter.unusedVariables false
set_option linter.unusedSimpArgs false

set_option maxRecDepth 100000 in
set_option maxHeartbeats 4000000 in
theorem onR35 {K : Act → World → Prop} {Q : Exit → Act → World → Prop} (W : World) (f : Nat → Value) (Ds : List Nat)
    (hK : ∀ f', Keep [0, 2, 3, 4, 5, 6, 7, 10, 17] f f' → f' 18 = .int .i64 0 → K (frD 200 f' Ds) W) :
    Code.wp Tryz.prog (lvFst (onC 13)) (Exit.then K Q) (frD 200 f Ds) W := by
  have HK := Lib.hid hK
  clear hK
  show Code.wp _ _ _ { tmps := #[f 0, f 1, f 2, f 3, f 4, f 5, f 6, f 7, f 8, f 9, f 10, f 11, f 12, f 13, f 14, f 15, f 16, f 17, f 18, f 19, f 20, f 21, f 22, f 23, f 24, f 25, f 26, f 27, f 28, f 29, f 30, f 31, f 32, f 33, f 34, f 35, f 36, f 37, f 38, f 39, f 40, f 41, f 42, f 43, f 44, f 45, f 46, f 47, f 48, f 49, f 50, f 51, f 52, f 53, f 54, f 55, f 56, f 57, f 58, f 59, f 60, f 61, f 62, f 63, f 64, f 65, f 66, f 67, f 68, f 69, f 70, f 71, f 72, f 73, f 74, f 75, f 76, f 77, f 78, f 79, f 80, f 81, f 82, f 83, f 84, f 85, f 86, f 87, f 88, f 89, f 90, f 91, f 92, f 93, f 94, f 95, f 96, f 97, f 98, f 99, f 100, f 101, f 102, f 103, f 104, f 105, f 106, f 107, f 108, f 109, f 110, f 111, f 112, f 113, f 114, f 115, f 116, f 117, f 118, f 119, f 120, f 121, f 122, f 123, f 124, f 125, f 126, f 127, f 128, f 129, f 130, f 131, f 132, f 133, f 134, f 135, f 136, f 137, f 138, f 139, f 140, f 141, f 142, f 143, f 144, f 145, f 146, f 147, f 148, f 149, f 150, f 151, f 152, f 153, f 154, f 155, f 156, f 157, f 158, f 159, f 160, f 161, f 162, f 163, f 164, f 165, f 166, f 167, f 168, f 169, f 170, f 171, f 172, f 173, f 174, f 175, f 176, f 177, f 178, f 179, f 180, f 181, f 182, f 183, f 184, f 185, f 186, f 187, f 188, f 189, f 190, f 191, f 192, f 193, f 194, f 195, f 196, f 197, f 198, f 199], defers := marks Ds } _
  conv => arg 2; whnf
  go_wp2_with fail
  refine cut_useD (n := 200) (K := K) _ rfl ?_
  exact HK.out _ (keep_mk rfl) rfl
theorem wp_inB {P : Program} {c : Code} {n : Nat} {K : Act → World → Prop} {Q : Exit → Act → World → Prop} {a : Act} {W : World} (h : Code.wp P c (Exit.then K (Exit.inBlock n (Exit.then K Q))) a W) : Code.wp P c (Exit.inBlock n (Exit.then K Q)) a W :=
  Code.wp_mono (Q := Exit.then K (Exit.inBlock n (Exit.then K Q))) (fun e a w h => by cases e <;> exact h) h
theorem onC13_eq : onC 13 = .seq (lvFst (onC 13)) (.block 6 (.loop onJ)) := by kernel_rfl
theorem onJ_eq : onJ = .seq (lvFst onJ) (.seq (.block 7 (.seq (lvFst (lvIn (lvFst (lvSnd onJ)))) (lvSnd (lvIn (lvFst (lvSnd onJ)))))) (lvSnd (lvSnd onJ))) := by kernel_rfl
theorem frD_get (n : Nat) (f : Nat → Value) (Ds : List Nat) (i : Nat) (hi : i < n) (d : Value) : (frD n f Ds).tmps.getD i d = f i := by
  simp [frD, hi]
/-- The test's slots and what is known at its head. -/
def L6I (W : World) (n : Nat) (f : Nat → Value) (Ds : List Nat) (a : Act) (Wx : World) : Prop := ∃ f' k, a = frD 200 f' Ds ∧ Keep [0, 2, 3, 4, 5, 6, 7, 10, 17] f f' ∧ f' 18 = .int .i64 (k : Nat) ∧ k ≤ n ∧ Fr N0 W Wx
def L6m (n : Nat) (a : Act) (_ : World) : Nat := n - (intOf (a.tmps.getD 18 (.bool false))).toNat
theorem onL6 {K : Act → World → Prop} {Q : Exit → Act → World → Prop} (W : World) (R Rw : Nat → Prop) (p pw bs bo bg N M : Nat) (s0 s1 : SS) (o : Op) (ho : o.wf) (V : OpS) (ws : List Wr) (v : Value) (b : Nat) (had : Bool) (f : Nat → Value) (Ds : List Nat)
    (hst : IsState W R p s1 N) (hF : s1.Fine N) (hN : N ≤ 100000) (hwas : IsState W Rw pw s0 M) (hFw : s0.Fine M) (hM : M ≤ 100000)
    (hbs : W.heap[bs]? = some (.cells #[.pointer (some ⟨p, 0, none⟩)] 27 (0, 0))) (hbo : OpBox W bo o V) (hbg : W.heap[bg]? = some (.cells #[v] 34 (0, 0))) (hws : Wrs W b v ws) (hwl : ws.length ≤ 1000)
    (hfact : had = false → ∀ y ∈ ws, (o.commit ≠ 0 → ∃ l, s1.lists y.pred = some l ∧ seenPL l o.commit = seenPL l (o.commit - 1) + 1) ∧ (o.commit = 0 → ∃ l, s1.lists y.pred = some l ∧ s0.lists y.pred = some l))
    (h3 : f 3 = .pointer (some ⟨bs, 0, none⟩)) (h6 : f 6 = .pointer (some ⟨bo, 0, none⟩)) (h7 : f 7 = .pointer (some ⟨bg, 0, none⟩)) (h10 : f 10 = .pointer (some ⟨pw, 0, none⟩)) (h17 : f 17 = .bool had)
    (hK : ∀ f' W', Keep [0, 2, 3, 4, 5] f f' → Fr N0 W W' → K (frD 200 f' Ds) W') :
    Code.wp Tryz.prog (onC 13) (Exit.then K Q) (frD 200 f Ds) W := by
  rw [onC13_eq]
  refine wp_seq (onR35 W f Ds fun f1 k1 e18 => ?_)
  obtain ⟨a, off, c, rfl, q1, q2, q3, q4, q5⟩ := hws
  refine wp_block ?_
  refine wp_loop (L6I W ws.length f Ds) (L6m ws.length) ⟨f1, 0, rfl, k1, e18, Nat.zero_le _, Fr.refl _ _⟩ ?_
  rintro a' Wx ⟨f2, k, rfl, k2, e2, hk, hfr⟩
  have hm : L6m ws.length (frD 200 f2 Ds) Wx = ws.length - k := by unfold L6m; rw [frD_get _ _ _ _ (by decide), e2]; simp [intOf]
  rw [hm, onJ_eq]
  have g3 := (k2.at 3 (by decide)).trans h3
  have g6 := (k2.at 6 (by decide)).trans h6
  have g7 := (k2.at 7 (by decide)).trans h7
  have g10 := (k2.at 10 (by decide)).trans h10
  have g17 := (k2.at 17 (by decide)).trans h17
  have hbgx := (hfr.at id (lt_of_block hbg)).trans hbg
  have hbsx := (hfr.at id (lt_of_block hbs)).trans hbs
  have hbox : OpBox Wx bo o V := (hfr.at id (lt_of_block hbo)).trans hbo
  refine wp_seq (on36 Wx bg k ws.length c a had f2 Ds hbgx g7 g17 e2 (fun hlt hno f3 k3 => ?_) fun _ f3 k3 => ?_)
  · obtain rfl := q3 (by omega)
    have hcx : ∀ i, i < 8 → Wx.cell? ⟨b, off + k * 8 + i, none⟩ = (Wr.enc ws[k])[i]? := fun i hi => by
      have h8 : i < (Wr.enc ws[k]).length := hi
      rw [List.getElem?_eq_getElem h8]
      exact hfr.cell id ((q5 k hlt i hi).trans (List.getElem?_eq_getElem h8))
    obtain ⟨hf1, hf2⟩ := hfact hno ws[k] (List.getElem_mem hlt)
    have hl : ∃ l, s1.lists ws[k].pred = some l := by
      by_cases h0 : o.commit = 0
      · exact (hf2 h0).imp fun _ h => h.1
      · exact (hf1 h0).imp fun _ h => h.1
    obtain ⟨l, hl⟩ := hl
    have hfl := hF.lists _ _ hl
    refine wp_seq (wp_block ?_)
    refine wp_seq (on38 Wx R p bs bg b off k ws.length c N s1 ws f3 Ds (hst.fr hfr fun _ _ => id) hF hN hbsx hbgx hlt hlt hcx l hl ((k3.at 3 (by decide)).trans g3) ((k3.at 7 (by decide)).trans g7) ((k3.at 18 (by decide)).trans e2) fun f4 W4 px k4 e19 hpx hf4 => ?_)
    have hbo4 : OpBox W4 bo o V := (hf4.at id (lt_of_block hbox)).trans hbox
    have k34 : Keep [0, 2, 3, 4, 5, 6, 7, 10, 17, 18] f2 f4 := k3.trans k4 fun _ h => h
    have next : ∀ f5 W5, Keep [0, 2, 3, 4, 5, 6, 7, 10, 17, 18] f4 f5 → Fr N0 W4 W5 → Code.wp Tryz.prog (lvSnd (lvSnd onJ)) (Exit.then (fun a' w' => L6I W ws.length f Ds a' w' ∧ L6m ws.length a' w' < ws.length - k) (Exit.inBlock 6 (Exit.then K Q))) (frD 200 f5 Ds) W5 := fun f5 W5 k5 hf5 => by
      have k25 := k34.trans k5 fun _ h => h
      refine on37 W5 k (by omega) f5 Ds ((k25.at 18 (by decide)).trans e2) fun f6 k6 e6 => ⟨⟨f6, k + 1, rfl, (k2.trans k25 (by decide)).trans k6 (by decide), e6, hlt, (hfr.then0 hf4).then0 hf5⟩, ?_⟩
      unfold L6m
      rw [frD_get _ _ _ _ (by decide), e6]
      exact Nat.sub_lt_sub_left hlt (Nat.lt_succ_self k)
    by_cases h0 : o.commit = 0
    · obtain ⟨l', e1, e0⟩ := hf2 h0
      obtain rfl : l' = l := by rw [hl] at e1; exact (Option.some.inj e1).symm
      have hcp : W4.cell? ⟨b, off + k * 8 + 2, none⟩ = some (.string ws[k].pred) := hf4.cell id (hcx 2 (by decide))
      exact wp_inB (on39b W4 _ Rw px pw bo bg b off k ws.length c N M s0 ws[k].pred l' o V f4 Ds hpx hfl hN h0 (hwas.fr (hfr.then0 hf4) fun _ _ => id) hFw hM e0 ((hf4.at id (lt_of_block hbgx)).trans hbgx) hlt hcp hbo4 ((k34.at 6 (by decide)).trans g6) ((k34.at 7 (by decide)).trans g7) ((k34.at 10 (by decide)).trans g10) ((k34.at 18 (by decide)).trans e2) e19 next)
    · obtain ⟨l', e1, es⟩ := hf1 h0
      obtain rfl : l' = l := by rw [hl] at e1; exact (Option.some.inj e1).symm
      exact wp_inB (on39a W4 _ px bo N ws[k].pred l' o ho V f4 Ds hpx hfl hN h0 es hbo4 ((k34.at 6 (by decide)).trans g6) e19 next)
  · exact hK f3 Wx ((k2.sub (by decide)).trans k3 (by decide)) hfr
end Go.Proofs.YtefepfiijoafbaaGreat
namespace Go.Proofs.YtefepfiijoafbaaGreat
open Go.RowKit Go.Shelf Go.Maps
attribute [local irreducible] wpQuiet
set_option linter.unusedVariables false
set_option linter.unusedSimpArgs false

/-- The blocks that lie beside the state. -/
def OnBk (bs br bm : Nat) (Ds : List Nat) (k : Nat) : Prop := k = bs ∨ k = br ∨ k = bm ∨ k ∈ Ds
structure OnSt (w W : World) (R : Nat → Prop) (p : Nat) (s : SS) (N n bs br bm : Nat) (Ds : List Nat) (G : Int → Option Int) : Prop where
  live : Live w W R p s N
  inv : OnceInv s
  map : MapF Tryz.prog 33 W bm n (viewF G)
  box : W.heap[bs]? = some (.cells #[.pointer (some ⟨p, 0, none⟩)] 27 (0, 0))
  res : W.heap[br]? = some (.cells #[.bool false] 4 (0, 0))
  mks : Marked W Ds
  apart : ∀ k, OnBk bs br bm Ds k → ¬ R k ∧ w.heap.size ≤ k
  ne : bs ≠ br ∧ bs ≠ bm ∧ br ≠ bm ∧ ∀ D ∈ Ds, D ≠ bs ∧ D ≠ br ∧ D ≠ bm
theorem OnSt.lt {w W : World} {R : Nat → Prop} {p N n bs br bm : Nat} {s : SS} {Ds : List Nat} {G : Int → Option Int} (h : OnSt w W R p s N n bs br bm Ds G) {k : Nat} (hk : OnBk bs br bm Ds k) : k < W.heap.size := by
  rcases hk with rfl | rfl | rfl | hk
  · exact lt_of_block h.box
  · exact lt_of_block h.res
  · exact h.map.lt
  · exact lt_of_block (h.mks.2 k hk)
theorem OnSt.step {w W W' : World} {R R' T : Nat → Prop} {p N N' n bs br bm : Nat} {s s' : SS} {Ds : List Nat} {G : Int → Option Int} (h : OnSt w W R p s N n bs br bm Ds G) (hf : Fr T W W') (hT : ∀ k, OnBk bs br bm Ds k → ¬ T k) (hL : Live w W' R' p s' N') (hR : ∀ k, R' k → R k ∨ W.heap.size ≤ k) (hs : OnceInv s') : OnSt w W' R' p s' N' n bs br bm Ds G where
  live := hL
  inv := hs
  map := h.map.fr hf (hT _ (.inr (.inr (.inl rfl))))
  box := (hf.at (hT _ (.inl rfl)) (lt_of_block h.box)).trans h.box
  res := (hf.at (hT _ (.inr (.inl rfl))) (lt_of_block h.res)).trans h.res
  mks := h.mks.fr hf fun D hD => hT D (.inr (.inr (.inr hD)))
  apart := fun k hk => ⟨fun hr => (hR k hr).elim (h.apart k hk).1 fun hz => by have := h.lt hk; omega, (h.apart k hk).2⟩
  ne := h.ne
theorem OnSt.fr {w W W' : World} {R : Nat → Prop} {p N n bs br bm : Nat} {s : SS} {Ds : List Nat} {G : Int → Option Int} (h : OnSt w W R p s N n bs br bm Ds G) (hf : Fr N0 W W') : OnSt w W' R p s N n bs br bm Ds G :=
  h.step hf (fun _ _ => id) (h.live.fr hf) (fun _ => .inl) h.inv
theorem OnSt.mark {w W : World} {R : Nat → Prop} {p N n bs br bm : Nat} {s : SS} {Ds : List Nat} {G : Int → Option Int} (h : OnSt w W R p s N n bs br bm Ds G) {D : Nat} (hD : W.heap[D]? = some (.deferred (some []))) (hR : ¬ R D) (hw : w.heap.size ≤ D) (hn : ¬ OnBk bs br bm Ds D) : OnSt w W R p s N n bs br bm (D :: Ds) G where
  live := h.live
  inv := h.inv
  map := h.map
  box := h.box
  res := h.res
  mks := ⟨List.nodup_cons.2 ⟨fun hm => hn (.inr (.inr (.inr hm))), h.mks.1⟩, fun E hE => by
    rcases List.mem_cons.1 hE with rfl | hE
    · exact hD
    · exact h.mks.2 E hE⟩
  apart := fun k hk => by
    rcases hk with hk | hk | hk | hk
    · exact h.apart k (.inl hk)
    · exact h.apart k (.inr (.inl hk))
    · exact h.apart k (.inr (.inr (.inl hk)))
    · rcases List.mem_cons.1 hk with rfl | hk
      · exact ⟨hR, hw⟩
      · exact h.apart k (.inr (.inr (.inr hk)))
  ne := ⟨h.ne.1, h.ne.2.1, h.ne.2.2.1, fun E hE => by
    rcases List.mem_cons.1 hE with rfl | hE
    · exact ⟨fun e => hn (.inl e), fun e => hn (.inr (.inl e)), fun e => hn (.inr (.inr (.inl e)))⟩
    · exact h.ne.2.2.2 E hE⟩
theorem OnSt.turn {w W W' : World} {R : Nat → Prop} {p N n n' bs br bm : Nat} {s : SS} {Ds : List Nat} {G G' : Int → Option Int} (h : OnSt w W R p s N n bs br bm Ds G) (hf : Fr (fun k => k = bm) W W') (hm : MapF Tryz.prog 33 W' bm n' (viewF G')) : OnSt w W' R p s N n' bs br bm Ds G' where
  live := ⟨h.live.1.fr hf fun k hk e => (h.apart bm (.inr (.inr (.inl rfl)))).1 (e ▸ hk), h.live.2.1, fun k hk => ⟨(h.live.2.2.1 k hk).1, Nat.lt_of_lt_of_le (h.live.2.2.1 k hk).2 hf.size⟩, h.live.2.2.2.trans hf fun k hk => .inr (by subst hk; exact (h.apart _ (.inr (.inr (.inl rfl)))).2)⟩
  inv := h.inv
  map := hm
  box := (hf.at (fun e => h.ne.2.1 e) (lt_of_block h.box)).trans h.box
  res := (hf.at (fun e => h.ne.2.2.1 e) (lt_of_block h.res)).trans h.res
  mks := h.mks.fr hf fun D hD e => (h.ne.2.2.2 D hD).2.2 e
  apart := h.apart
  ne := h.ne
/-- What is fixed of T is fixed wholly. -/
theorem fr_same {T : Nat → Prop} {W W' : World} (h : Fr T W W') (h2 : SameOn T W W') : Fr N0 W W' :=
  ⟨h.os, h.tape, h.output, h.size, fun k _ hl => by
    by_cases hk : T k
    · exact h2.block k hk hl
    · exact h.block k hk hl⟩
theorem onC_eq : onC 0 = .seq (lvFst (onC 0)) (.seq (lvFst (onC 1)) (.seq (lvFst (onC 2)) (.seq (lvFst (onC 3)) (.seq (lvFst (onC 4)) (.seq (lvFst (onC 5)) (.seq (lvFst (onC 6)) (.seq (lvFst (onC 7)) (.seq (lvFst (onC 8)) (.seq (lvFst (onC 9)) (.seq (lvFst (onC 10)) (.seq (lvFst (onC 11)) (.seq (lvFst (onC 12)) (onC 13))))))))))))) := by kernel_rfl

/-- The first steps of a round: up to the command itself. -/
theorem onRound1 {K : Act → World → Prop} {Q : Exit → Act → World → Prop} {c : Code} (w W : World) (R : Nat → Prop) (p bs br bm b k l N n : Nat) (a : Option Addr) (cap : Nat) (s : SS) (G : Int → Option Int) (xs : List (Op × OpS)) (hxs : RowsK opE 16 W b (.slice a l cap) xs) (hk : k < xs.length) (f : Nat → Value) (Ds : List Nat)
    (hS : OnSt w W R p s N n bs br bm Ds G) (hN : N ≤ 100000)
    (h0 : f 0 = .slice a l cap) (h3 : f 3 = .pointer (some ⟨bs, 0, none⟩)) (h5 : f 5 = .int .i64 k)
    (hK : xs[k].1.kind ≠ 4 → xs[k].1.kind ≠ 5 → xs[k].1.kind ≠ 6 → ∀ f' W' bo bg D v b pw Rw, Keep [0, 2, 3, 4, 5] f f' → f' 6 = .pointer (some ⟨bo, 0, none⟩) → f' 7 = .pointer (some ⟨bg, 0, none⟩) → f' 10 = .pointer (some ⟨pw, 0, none⟩) → OnSt w W' R p s N n bs br bm (D :: Ds) G → Fr N0 W W' →
      OpBox W' bo xs[k].1 xs[k].2 → W'.heap[bg]? = some (.cells #[v] 34 (0, 0)) → Wrs W' b v ((s.staged xs[k].1.start).getD []) → IsState W' Rw pw s N → (∀ j, Rw j → ¬ R j ∧ W.heap.size ≤ j ∧ j < W'.heap.size) →
      (∀ j, j = bo ∨ j = bg → W.heap.size ≤ j) → (0 < ((s.staged xs[k].1.start).getD []).length → W.heap.size ≤ b) → (∀ j, OnBk bs br bm (D :: Ds) j → ¬ Rw j) → K (frD 200 f' (D :: Ds)) W')
    (hQ : ∀ f' W', Keep [0, 2, 3, 4, 5] f f' → OnSt w W' R p s N n bs br bm Ds G → Fr N0 W W' → Q (.exit 1) (frD 200 f' Ds) W')
    (hc : ∀ a w, K a w → Code.wp Tryz.prog c Q a w) :
    Code.wp Tryz.prog (.seq (lvFst (onC 0)) (.seq (lvFst (onC 1)) (.seq (lvFst (onC 2)) (.seq (lvFst (onC 3)) (.seq (lvFst (onC 4)) c))))) Q (frD 200 f Ds) W := by
  have hRW : ∀ j, R j → j < W.heap.size := fun j hj => (hS.live.2.2.1 j hj).2
  have hwW : w.heap.size ≤ W.heap.size := hS.live.2.2.2.size
  refine wp_seq (onR10 W b k l a cap xs hxs hk f Ds h0 h5 fun f1 W1 bo e0 e2 e3 e4 e5 e6 hbo hB1 hf1 => ?_)
  have k1 : Keep [0, 2, 3, 4, 5] f f1 := keep_mk (by simp only [List.map_cons, List.map_nil, e0, e2, e3, e4, e5])
  refine wp_seq (onR11 W1 bo _ _ hB1 f1 Ds e6 (fun n4 n5 n6 f2 k2 => ?_) fun f2 k2 => hQ f2 W1 (k1.trans k2 fun _ h => h) (hS.fr hf1) hf1)
  refine wp_seq (onR12 W1 f2 Ds fun f3 W2 bg k3 e7 hbg hG2 hf2 => ?_)
  have hS2 := (hS.fr hf1).fr hf2
  have hB2 : OpBox W2 bo xs[k].1 xs[k].2 := (hf2.at id (lt_of_block hB1)).trans hB1
  have z1 := hf1.size
  have z2 := hf2.size
  have lbo := lt_of_block hB1
  have k03 : Keep [0, 2, 3, 4, 5] f f3 := (k1.trans k2 (by decide)).trans k3 (by decide)
  have g6 : f3 6 = .pointer (some ⟨bo, 0, none⟩) := (k3.at 6 (by decide)).trans ((k2.at 6 (by decide)).trans e6)
  refine wp_seq (onR13 W2 R p bs bo bg N s _ _ f3 Ds hS2.live.1 (fun j hj => (hS2.live.2.2.1 j hj).2) hS2.live.2.1 hN hS2.box hB2 hG2 (fun h => by have := hRW _ h; omega) (fun h => by have := hRW _ h; omega) (by omega) ((k03.at 3 (by decide)).trans h3) g6 e7 fun f4 W3 D v b' k4 hD hDl hG3 hW3 hb3 hB3 hf3 => ?_)
  have lbg := lt_of_block hG2
  have z3 := hf3.size
  have lD := lt_of_block hD
  have hlt2 : ∀ j, OnBk bs br bm Ds j → j < W.heap.size := fun j hj => hS.lt hj
  have hL3 : Live w W3 R p s N := ⟨hS2.live.1.fr hf3 (fun j hj => fun e => by have := hRW j hj; omega), hS2.live.2.1, fun j hj => ⟨(hS2.live.2.2.1 j hj).1, by have := hRW j hj; omega⟩, hS2.live.2.2.2.trans hf3 fun j hj => .inr (by omega)⟩
  have hS3 : OnSt w W3 R p s N n bs br bm (D :: Ds) G := (hS2.step hf3 (fun j hj e => by have := hlt2 j hj; omega) hL3 (fun _ => .inl) hS.inv).mark hD (fun h => by have := hRW _ h; omega) (by omega) fun h => by have := hlt2 _ h; omega
  have k04 : Keep [0, 2, 3, 4, 5] f f4 := k03.trans k4 (by decide)
  refine wp_seq (onR18 W3 R p bs N s f4 (D :: Ds) hS3.live.1 hS3.live.2.1 hN hS3.box ((k04.at 3 (by decide)).trans h3) fun f5 W4 pw k5 e10 hpw hf4 => hc _ _ (hK n4 n5 n6 f5 W4 bo bg D v b' pw _ (k04.trans k5 (by decide)) ((k5.at 6 (by decide)).trans ((k4.at 6 (by decide)).trans g6)) ((k5.at 7 (by decide)).trans ((k4.at 7 (by decide)).trans e7)) e10 (hS3.fr hf4) ?_ ?_ ?_ ?_ hpw ?_ ?_ ?_ ?_))
  · exact (((hf1.then0 hf2).trans hf3 fun j hj => .inr (by omega)).then0 hf4)
  · exact (hf4.at id (lt_of_block hB3)).trans hB3
  · exact (hf4.at id (lt_of_block hG3)).trans hG3
  · exact Wrs.fr0 hW3 hf4
  · rintro j ⟨h1, h2⟩; exact ⟨fun h => by have := hRW j h; omega, by omega, h2⟩
  · rintro j (rfl | rfl) <;> omega
  · intro h; have := (hb3 h).1; omega
  · rintro j hj ⟨h1, h2⟩; have := hS3.lt hj; omega
end Go.Proofs.YtefepfiijoafbaaGreat
namespace Go.Proofs.YtefepfiijoafbaaGreat
open Go.RowKit Go.Shelf Go.Maps
attribute [local irreducible] wpQuiet
set_option linter.unusedVariables false
set_option linter.unusedSimpArgs false

theorem onRound2 {K : Act → World → Prop} {Q : Exit → Act → World → Prop} (w W : World) (R Rw : Nat → Prop) (p bs br bm bo bg b pw N n : Nat) (s : SS) (o : Op) (ho : o.wf) (V : OpS) (hI : OpIs w o V) (hk4 : o.kind ≠ 4) (hk5 : o.kind ≠ 5) (hk6 : o.kind ≠ 6) (v : Value) (f : Nat → Value) (Ds : List Nat)
    (hS : OnSt w W R p s N n bs br bm Ds s.finals) (hN : N + 2 ≤ 100000) (hn : n ≤ 100000)
    (h3 : f 3 = .pointer (some ⟨bs, 0, none⟩)) (h4 : f 4 = .map (some bm)) (h6 : f 6 = .pointer (some ⟨bo, 0, none⟩)) (h7 : f 7 = .pointer (some ⟨bg, 0, none⟩)) (h10 : f 10 = .pointer (some ⟨pw, 0, none⟩))
    (hbo : OpBox W bo o V) (hbg : W.heap[bg]? = some (.cells #[v] 34 (0, 0))) (hws : Wrs W b v ((s.staged o.start).getD [])) (hwas : IsState W Rw pw s N) (hRw : ∀ j, Rw j → ¬ R j ∧ j < W.heap.size) (hxR : ∀ j, j = bo ∨ j = bg → ¬ R j ∧ j ≠ bm) (hbR : 0 < ((s.staged o.start).getD []).length → ¬ R b ∧ b ≠ bm ∧ b < W.heap.size) (hBw : ∀ j, OnBk bs br bm Ds j → ¬ Rw j)
    (hK : ∀ f' W' R' Ds' s' N' n', Keep [0, 2, 3, 4, 5] f f' → OnSt w W' R' p s' N' n' bs br bm Ds' s'.finals → N' ≤ N + 2 → n' ≤ n + 1 → K (frD 200 f' Ds') W')
    (hQ : ∀ f' W' R' Ds' s' N' n', Keep [0, 2, 3, 4, 5] f f' → OnSt w W' R' p s' N' n' bs br bm Ds' s'.finals → N' ≤ N + 2 → n' ≤ n + 1 → Q (.exit 1) (frD 200 f' Ds') W') :
    Code.wp Tryz.prog (.seq (lvFst (onC 5)) (.seq (lvFst (onC 6)) (.seq (lvFst (onC 7)) (.seq (lvFst (onC 8)) (.seq (lvFst (onC 9)) (.seq (lvFst (onC 10)) (.seq (lvFst (onC 11)) (.seq (lvFst (onC 12)) (onC 13))))))))) (Exit.then K Q) (frD 200 f Ds) W := by
  have hFs := hS.live.2.1
  have hRW : ∀ j, R j → j < W.heap.size := fun j hj => (hS.live.2.2.1 j hj).2
  refine wp_seq (onR19 w W R p bs bo N s o V f Ds hS.live (by omega) ho hI ⟨hk4, hk5, hk6⟩ hS.box hbo h3 h6 fun f1 W1 R1 k1 e11 hL1 hR1 hf1 => ?_)
  have hS1 : OnSt w W1 R1 p (sApply s o).1 (N + 1) n bs br bm Ds s.finals := hS.step hf1 (fun j hj => (hS.apart j hj).1) hL1 hR1 (onceInv_apply hS.inv)
  refine wp_seq (onR20 W1 _ f1 Ds e11 (fun he f2 k2 => ?_) fun he f2 k2 => hQ f2 W1 R1 Ds s (N + 1) n ((k1.sub (by decide)).trans k2 fun _ h => h) (by have h := hS1; rw [sApply_err he] at h; exact h) (by omega) (by omega))
  have z1 := hf1.size
  have k12 : Keep [0, 2, 3, 4, 5, 6, 7, 10] f f2 := k1.trans k2 fun _ h => h
  refine wp_seq (onR21 W1 R1 p bs (N + 1) _ f2 Ds hL1.1 hL1.2.1 (by omega) hS1.box ((k12.at 3 (by decide)).trans h3) fun f3 W2 pa k3 e12 hpa hf2 => ?_)
  have z2 := hf2.size
  have k13 : Keep [0, 2, 3, 4, 5, 6, 7, 10] f f3 := k12.trans k3 fun _ h => h
  have hS2 := hS1.fr hf2
  have hB1 : OpBox W1 bo o V := (hf1.at (hxR bo (.inl rfl)).1 (lt_of_block hbo)).trans hbo
  have hB2 : OpBox W2 bo o V := (hf2.at id (lt_of_block hB1)).trans hB1
  have hbs1 : ∀ j, OnBk bs br bm Ds j → ¬ R1 j := fun j hj => (hS1.apart j hj).1
  refine wp_seq (onR22 w W2 R1 _ p pa bs bo (N + 1) (N + 1) _ o V f3 Ds hS2.live (by omega) ho hI ⟨hk4, hk5, hk6⟩ hpa (fun j hj hr => by have := (hL1.2.2.1 j hr).2; omega) (sApply_twice he) (hbs1 _ (.inl rfl)) hS2.box hB2 ((k13.at 3 (by decide)).trans h3) ((k13.at 6 (by decide)).trans h6) e12 fun f4 W3 R3 k4 hL3 hR3 hf3 => ?_)
  have z3 := hf3.size
  have k14 : Keep [0, 2, 3, 4, 5, 6, 7, 10] f f4 := k13.trans k4 fun _ h => h
  have hS3 : OnSt w W3 R3 p (sApply s o).1 (N + 1 + 1) n bs br bm Ds s.finals := hS2.step hf3 hbs1 hL3 hR3 hS2.inv
  have lbo := lt_of_block hbo
  have lbg := lt_of_block hbg
  have nR1 : ∀ j, ¬ R j → j < W.heap.size → ¬ R1 j := fun j h hl hr => (hR1 j hr).elim h fun hz => by omega
  have hB3 : OpBox W3 bo o V := (hf3.at (nR1 _ (hxR bo (.inl rfl)).1 lbo) (lt_of_block hB2)).trans hB2
  have hf13 : Fr R1 W1 W3 := (hf2.mono fun _ h => h.elim).trans hf3 fun _ h => .inl h
  have hfW : Fr R W W3 := hf1.trans hf13 fun j hj => hR1 j hj
  have hG3 : W3.heap[bg]? = some (.cells #[v] 34 (0, 0)) := (hfW.at (hxR bg (.inr rfl)).1 lbg).trans hbg
  have hwas3 : IsState W3 Rw pw s N := hwas.fr hfW fun j hj => (hRw j hj).1
  have hR3W : ∀ j, R3 j → R j ∨ W.heap.size ≤ j := fun j hj => (hR3 j hj).elim (hR1 j) fun h => .inr (by omega)
  refine wp_seq (onR24 W3 R3 Rw p pw bs bo (N + 1 + 1) N s _ o V f4 Ds hL3.1 (fun j hj => (hL3.2.2.1 j hj).2) hL3.2.1 (by omega) hwas3 (fun j hj => by have := (hRw j hj).2; omega) hFs (by omega) (fun j hj hw => (hR3W j hj).elim (hRw j hw).1 fun h => by have := (hRw j hw).2; omega) (hBw _ (.inl rfl)) (fun hk q l hl => sApply_lists hk hl) hS3.box hB3 ((k14.at 3 (by decide)).trans h3) ((k14.at 6 (by decide)).trans h6) ((k14.at 10 (by decide)).trans h10) (fun hk3 f5 k5 => ?_) fun hk3 f5 W4 D k5 hD hDl hf4 hs4 => ?_)
  · have k15 : Keep [0, 2, 3, 4, 5, 6, 7, 10] f f5 := k14.trans k5 fun _ h => h
    refine wp_seq (onR31 W3 bm bo n s.finals o ho V f5 Ds hS3.map hB3 ((k15.at 4 (by decide)).trans h4) ((k15.at 6 (by decide)).trans h6) fun f6 k6 e16 e17 => ?_)
    have k16 : Keep [0, 2, 3, 4, 5, 6, 7, 10] f f6 := k15.trans k6 fun _ h => h
    obtain ⟨hfin, hsame⟩ := sApply_had he hk3
    refine wp_seq (onR32 W3 bo (s.finals o.start) o V f6 Ds hB3 hsame ((k16.at 6 (by decide)).trans h6) e16 e17 fun f7 k7 => ?_)
    have k17 : Keep [0, 2, 3, 4, 5, 6, 7, 10] f f7 := k16.trans k7 (by decide)
    have e17' := (k7.at 17 (by decide)).trans e17
    refine wp_seq (onR34 W3 bm bo n s.finals o ho V f7 Ds hS3.map hn hB3 ((k17.at 4 (by decide)).trans h4) ((k17.at 6 (by decide)).trans h6) fun f8 W4 k8 hm4 hf4 => ?_)
    rw [← hfin] at hm4
    have hS4 := hS3.turn hf4 hm4
    have k18 : Keep [0, 2, 3, 4, 5, 6, 7, 10] f f8 := k17.trans k8 (by decide)
    have hws3 : Wrs W3 b v ((s.staged o.start).getD []) := rowsK_frT (enc := Wr.enc) (n := 8) (fun _ => rfl) hws hfW fun h0 => (hbR h0).1
    have hws4 : Wrs W4 b v ((s.staged o.start).getD []) := rowsK_frT (enc := Wr.enc) (n := 8) (fun _ => rfl) hws3 hf4 fun h0 => (hbR h0).2.1
    have hwl : ((s.staged o.start).getD []).length ≤ 1000 := by
      cases hsg : s.staged o.start with
      | none => simp
      | some us => have := (hFs.staged _ _ hsg).2.1; simp; omega
    refine onL6 W4 R3 Rw p pw bs bo bg (N + 1 + 1) N s _ o ho V _ v b _ f8 Ds hS4.live.1 hS4.live.2.1 (by omega) (hwas3.fr hf4 fun j hj e => hBw bm (.inr (.inr (.inl rfl))) (e ▸ hj)) hFs (by omega) hS4.box ((hf4.at (hxR bo (.inl rfl)).2 (lt_of_block hB3)).trans hB3) ((hf4.at (hxR bg (.inr rfl)).2 (lt_of_block hG3)).trans hG3) hws4 hwl (fun hno y hy => ?_)
      ((k18.at 3 (by decide)).trans h3) ((k18.at 6 (by decide)).trans h6) ((k18.at 7 (by decide)).trans h7) ((k18.at 10 (by decide)).trans h10) ((k8.at 17 (by decide)).trans e17')
      fun f9 W5 k9 hf5 => hK f9 W5 R3 Ds _ _ _ ((k18.sub (by decide)).trans k9 fun _ h => h) (hS4.fr hf5) (Nat.le_refl _) (Nat.le_refl _)
    have hnone : s.finals o.start = none := by
      cases hg : s.finals o.start with
      | none => rfl
      | some d => rw [hg] at hno; simp at hno
    cases hsg : s.staged o.start with
    | none => rw [hsg] at hy; simp at hy
    | some us =>
      rw [hsg] at hy
      simp only [Option.getD_some] at hy
      refine ⟨fun hc => sApply_seen hFs.toOk he hk3 hnone hsg hc hy, fun hc => ?_⟩
      obtain ⟨l, hl⟩ := Option.ne_none_iff_exists'.1 (hS.inv _ _ hsg y hy)
      exact ⟨l, by rw [sApply_zero he hk3 hc]; exact hl, hl⟩
  · have hf04 := fr_same hf4 hs4
    have hS4 := hS3.fr hf04
    have hwW := hL3.2.2.2.size
    refine hQ f5 W4 R3 (D :: Ds) (sApply s o).1 (N + 1 + 1) n ((k14.sub (by decide)).trans k5 fun _ h => h) ?_ (Nat.le_refl _) (by omega)
    rw [sApply_finals hk3]
    exact hS4.mark hD (fun h => by have := (hL3.2.2.1 _ h).2; omega) (by omega) fun h => by have := hS3.lt h; omega
/-- One round. -/
theorem onRound {K : Act → World → Prop} {Q : Exit → Act → World → Prop} (w W : World) (R : Nat → Prop) (p bs br bm b k l N n : Nat) (a : Option Addr) (cap : Nat) (s : SS) (xs : List (Op × OpS)) (hxs : Ops w b (.slice a l cap) xs) (hwf : ∀ x ∈ xs, x.1.wf) (hk : k < xs.length) (f : Nat → Value) (Ds : List Nat)
    (hS : OnSt w W R p s N n bs br bm Ds s.finals) (hN : N + 2 ≤ 100000) (hn : n ≤ 100000)
    (h0 : f 0 = .slice a l cap) (h3 : f 3 = .pointer (some ⟨bs, 0, none⟩)) (h4 : f 4 = .map (some bm)) (h5 : f 5 = .int .i64 k)
    (hK : ∀ f' W' R' Ds' s' N' n', Keep [0, 2, 3, 4, 5] f f' → OnSt w W' R' p s' N' n' bs br bm Ds' s'.finals → N' ≤ N + 2 → n' ≤ n + 1 → K (frD 200 f' Ds') W')
    (hQ : ∀ f' W' R' Ds' s' N' n', Keep [0, 2, 3, 4, 5] f f' → OnSt w W' R' p s' N' n' bs br bm Ds' s'.finals → N' ≤ N + 2 → n' ≤ n + 1 → Q (.exit 1) (frD 200 f' Ds') W') :
    Code.wp Tryz.prog (onC 0) (Exit.then K Q) (frD 200 f Ds) W := by
  rw [onC_eq]
  have hRW : ∀ j, R j → j < W.heap.size := fun j hj => (hS.live.2.2.1 j hj).2
  have hbm : bm < W.heap.size := hS.lt (.inr (.inr (.inl rfl)))
  refine onRound1 (K := fun a w => Code.wp Tryz.prog _ (Exit.then K Q) a w) w W R p bs br bm b k l N n a cap s s.finals xs (hxs.1.fr0 opE_len hS.live.2.2.2) hk f Ds hS (by omega) h0 h3 h5 ?_ (fun f1 W1 k1 hS1 hf1 => hQ f1 W1 R Ds s N n k1 hS1 (by omega) (by omega)) (fun _ _ h => h)
  intro n4 n5 n6 f1 W1 bo bg D v b' pw Rw k1 e6 e7 e10 hS1 hf1 hB1 hG1 hW1 hpw hRw hx hb' hBw
  refine onRound2 w W1 R Rw p bs br bm bo bg b' pw N n s _ (hwf _ (List.getElem_mem hk)) _ (hxs.2 _ (List.getElem_mem hk)) n4 n5 n6 v f1 (D :: Ds) hS1 hN hn ((k1.at 3 (by decide)).trans h3) ((k1.at 4 (by decide)).trans h4) e6 e7 e10 hB1 hG1 hW1 hpw (fun j hj => ⟨(hRw j hj).1, (hRw j hj).2.2⟩)
    (fun j hj => ⟨fun h => by have := hRW j h; have := hx j hj; omega, fun e => by have := hx j hj; omega⟩) (fun h0 => ⟨fun h => by have := hRW _ h; have := hb' h0; omega, fun e => by have := hb' h0; omega, ?_⟩) hBw
    (fun f' W' R' Ds' s' N' n' k' hS' hN' hn' => hK f' W' R' Ds' s' N' n' (k1.trans k' fun _ h => h) hS' hN' hn')
    (fun f' W' R' Ds' s' N' n' k' hS' hN' hn' => hQ f' W' R' Ds' s' N' n' (k1.trans k' fun _ h => h) hS' hN' hn')
  obtain ⟨a', off, c, e, q1, q2, q3, q4, q5⟩ := hW1
  have := q5 0 h0 0 (by decide)
  exact lt_of_cell (this.trans (List.getElem?_eq_getElem (by show 0 < 8; decide)))
end Go.Proofs.YtefepfiijoafbaaGreat
namespace Go.Proofs.YtefepfiijoafbaaGreat
open Go.RowKit Go.Shelf Go.Maps
attribute [local go_sem] Oper.semAt_some
attribute [local go_sem ↓] Go.wp_at_zero Go.wp_at_succ
attribute [local irreducible] wpQuiet
set_option linter.unusedVariables false
set_option linter.unusedSimpArgs false

set_option maxRecDepth 100000 in
set_option maxHeartbeats 4000000 in
theorem onR7 {K : Act → World → Prop} {Q : Exit → Act → World → Prop} (W : World) (f : Nat → Value) (Ds : List Nat)
    (hK : ∀ f', Keep [0, 2, 3, 4] f f' → f' 5 = .int .i64 (0 : Nat) → K (frD 200 f' Ds) W) :
    Code.wp Tryz.prog (lvFst (lvFst (onB 5))) (Exit.then K Q) (frD 200 f Ds) W := by
  have HK := Lib.hid hK
  clear hK
  show Code.wp _ _ _ { tmps := #[f 0, f 1, f 2, f 3, f 4, f 5, f 6, f 7, f 8, f 9, f 10, f 11, f 12, f 13, f 14, f 15, f 16, f 17, f 18, f 19, f 20, f 21, f 22, f 23, f 24, f 25, f 26, f 27, f 28, f 29, f 30, f 31, f 32, f 33, f 34, f 35, f 36, f 37, f 38, f 39, f 40, f 41, f 42, f 43, f 44, f 45, f 46, f 47, f 48, f 49, f 50, f 51, f 52, f 53, f 54, f 55, f 56, f 57, f 58, f 59, f 60, f 61, f 62, f 63, f 64, f 65, f 66, f 67, f 68, f 69, f 70, f 71, f 72, f 73, f 74, f 75, f 76, f 77, f 78, f 79, f 80, f 81, f 82, f 83, f 84, f 85, f 86, f 87, f 88, f 89, f 90, f 91, f 92, f 93, f 94, f 95, f 96, f 97, f 98, f 99, f 100, f 101, f 102, f 103, f 104, f 105, f 106, f 107, f 108, f 109, f 110, f 111, f 112, f 113, f 114, f 115, f 116, f 117, f 118, f 119, f 120, f 121, f 122, f 123, f 124, f 125, f 126, f 127, f 128, f 129, f 130, f 131, f 132, f 133, f 134, f 135, f 136, f 137, f 138, f 139, f 140, f 141, f 142, f 143, f 144, f 145, f 146, f 147, f 148, f 149, f 150, f 151, f 152, f 153, f 154, f 155, f 156, f 157, f 158, f 159, f 160, f 161, f 162, f 163, f 164, f 165, f 166, f 167, f 168, f 169, f 170, f 171, f 172, f 173, f 174, f 175, f 176, f 177, f 178, f 179, f 180, f 181, f 182, f 183, f 184, f 185, f 186, f 187, f 188, f 189, f 190, f 191, f 192, f 193, f 194, f 195, f 196, f 197, f 198, f 199], defers := marks Ds } _
  conv => arg 2; whnf
  go_wp2_with fail
  refine cut_useD (n := 200) (K := K) _ rfl ?_
  exact HK.out _ (keep_mk rfl) rfl
set_option maxRecDepth 100000 in
set_option maxHeartbeats 4000000 in
theorem onR8 {K : Act → World → Prop} {Q : Exit → Act → World → Prop} (W : World) (k n c : Nat) (a : Option Addr) (f : Nat → Value) (Ds : List Nat) (h0 : f 0 = .slice a n c) (h5 : f 5 = .int .i64 k)
    (hK : k < n → ∀ f', Keep [0, 2, 3, 4, 5] f f' → K (frD 200 f' Ds) W) (hQ : ¬ k < n → ∀ f', Keep [0, 2, 3, 4, 5] f f' → Q (.exit 0) (frD 200 f' Ds) W) :
    Code.wp Tryz.prog (lvFst onL) (Exit.then K Q) (frD 200 f Ds) W := by
  have HK := Lib.hid hK; have HQ := Lib.hid hQ; have H0 := Lib.hid h0; have H5 := Lib.hid h5
  clear hK hQ
  show Code.wp _ _ _ { tmps := #[f 0, f 1, f 2, f 3, f 4, f 5, f 6, f 7, f 8, f 9, f 10, f 11, f 12, f 13, f 14, f 15, f 16, f 17, f 18, f 19, f 20, f 21, f 22, f 23, f 24, f 25, f 26, f 27, f 28, f 29, f 30, f 31, f 32, f 33, f 34, f 35, f 36, f 37, f 38, f 39, f 40, f 41, f 42, f 43, f 44, f 45, f 46, f 47, f 48, f 49, f 50, f 51, f 52, f 53, f 54, f 55, f 56, f 57, f 58, f 59, f 60, f 61, f 62, f 63, f 64, f 65, f 66, f 67, f 68, f 69, f 70, f 71, f 72, f 73, f 74, f 75, f 76, f 77, f 78, f 79, f 80, f 81, f 82, f 83, f 84, f 85, f 86, f 87, f 88, f 89, f 90, f 91, f 92, f 93, f 94, f 95, f 96, f 97, f 98, f 99, f 100, f 101, f 102, f 103, f 104, f 105, f 106, f 107, f 108, f 109, f 110, f 111, f 112, f 113, f 114, f 115, f 116, f 117, f 118, f 119, f 120, f 121, f 122, f 123, f 124, f 125, f 126, f 127, f 128, f 129, f 130, f 131, f 132, f 133, f 134, f 135, f 136, f 137, f 138, f 139, f 140, f 141, f 142, f 143, f 144, f 145, f 146, f 147, f 148, f 149, f 150, f 151, f 152, f 153, f 154, f 155, f 156, f 157, f 158, f 159, f 160, f 161, f 162, f 163, f 164, f 165, f 166, f 167, f 168, f 169, f 170, f 171, f 172, f 173, f 174, f 175, f 176, f 177, f 178, f 179, f 180, f 181, f 182, f 183, f 184, f 185, f 186, f 187, f 188, f 189, f 190, f 191, f 192, f 193, f 194, f 195, f 196, f 197, f 198, f 199], defers := marks Ds } _
  rw [h0, h5]
  clear h0 h5
  conv => arg 2; whnf
  by_cases hlt : k < n
  · have hki : (k : Int) < (n : Int) := by omega
    go_wp2_with fail
    refine cut_useD (n := 200) (K := K) _ rfl ?_
    exact HK.out hlt _ (keep_mk (by simp only [List.map_cons, List.map_nil, H0.out, H5.out]; rfl))
  · have hki : ¬ (k : Int) < (n : Int) := by omega
    go_wp2_with fail
    refine cut_useQD (n := 200) (Q := Q) (e := .exit 0) _ rfl ?_
    exact HQ.out hlt _ (keep_mk (by simp only [List.map_cons, List.map_nil, H0.out, H5.out]; rfl))
set_option maxRecDepth 100000 in
set_option maxHeartbeats 4000000 in
theorem onR9 {K : Act → World → Prop} {Q : Exit → Act → World → Prop} (W : World) (k : Nat) (hk : k ≤ 100000) (f : Nat → Value) (Ds : List Nat) (h5 : f 5 = .int .i64 k)
    (hK : ∀ f', Keep [0, 2, 3, 4] f f' → f' 5 = .int .i64 ((k + 1 : Nat) : Int) → K (frD 200 f' Ds) W) :
    Code.wp Tryz.prog (lvSnd (lvSnd onL)) (Exit.then K Q) (frD 200 f Ds) W := by
  have HK := Lib.hid hK
  clear hK
  show Code.wp _ _ _ { tmps := #[f 0, f 1, f 2, f 3, f 4, f 5, f 6, f 7, f 8, f 9, f 10, f 11, f 12, f 13, f 14, f 15, f 16, f 17, f 18, f 19, f 20, f 21, f 22, f 23, f 24, f 25, f 26, f 27, f 28, f 29, f 30, f 31, f 32, f 33, f 34, f 35, f 36, f 37, f 38, f 39, f 40, f 41, f 42, f 43, f 44, f 45, f 46, f 47, f 48, f 49, f 50, f 51, f 52, f 53, f 54, f 55, f 56, f 57, f 58, f 59, f 60, f 61, f 62, f 63, f 64, f 65, f 66, f 67, f 68, f 69, f 70, f 71, f 72, f 73, f 74, f 75, f 76, f 77, f 78, f 79, f 80, f 81, f 82, f 83, f 84, f 85, f 86, f 87, f 88, f 89, f 90, f 91, f 92, f 93, f 94, f 95, f 96, f 97, f 98, f 99, f 100, f 101, f 102, f 103, f 104, f 105, f 106, f 107, f 108, f 109, f 110, f 111, f 112, f 113, f 114, f 115, f 116, f 117, f 118, f 119, f 120, f 121, f 122, f 123, f 124, f 125, f 126, f 127, f 128, f 129, f 130, f 131, f 132, f 133, f 134, f 135, f 136, f 137, f 138, f 139, f 140, f 141, f 142, f 143, f 144, f 145, f 146, f 147, f 148, f 149, f 150, f 151, f 152, f 153, f 154, f 155, f 156, f 157, f 158, f 159, f 160, f 161, f 162, f 163, f 164, f 165, f 166, f 167, f 168, f 169, f 170, f 171, f 172, f 173, f 174, f 175, f 176, f 177, f 178, f 179, f 180, f 181, f 182, f 183, f 184, f 185, f 186, f 187, f 188, f 189, f 190, f 191, f 192, f 193, f 194, f 195, f 196, f 197, f 198, f 199], defers := marks Ds } _
  rw [h5]
  clear h5
  conv => arg 2; whnf
  go_wp2_with fail
  refine cut_useD (n := 200) (K := K) _ rfl ?_
  exact HK.out _ (keep_mk rfl) (by show Value.int .i64 ((k : Int) + 1) = _; go_num)
theorem onB5_eq : lvFst (onB 5) = .seq (lvFst (lvFst (onB 5))) (.block 0 (.loop onL)) := by kernel_rfl
theorem onL_eq : onL = .seq (lvFst onL) (.seq (.block 1 (onC 0)) (lvSnd (lvSnd onL))) := by kernel_rfl
/-- The rounds' slots and what is known at their head. -/
def OnI (w : World) (p bs br bm m : Nat) (f : Nat → Value) (a : Act) (W : World) : Prop := ∃ f' Ds R s N n k, a = frD 200 f' Ds ∧ Keep [0, 2, 3, 4] f f' ∧ f' 5 = .int .i64 (k : Nat) ∧ k ≤ m ∧ N ≤ 2 * k ∧ n ≤ k ∧ OnSt w W R p s N n bs br bm Ds s.finals
def OnM (m : Nat) (a : Act) (_ : World) : Nat := m - (intOf (a.tmps.getD 5 (.bool false))).toNat
theorem onLoop {K : Act → World → Prop} {Q : Exit → Act → World → Prop} (w W : World) (R : Nat → Prop) (p bs br bm b l : Nat) (a : Option Addr) (cap : Nat) (xs : List (Op × OpS)) (hxs : Ops w b (.slice a l cap) xs) (hwf : ∀ x ∈ xs, x.1.wf) (hl : xs.length ≤ 60) (f : Nat → Value) (Ds : List Nat)
    (hS : OnSt w W R p SS.empty 0 0 bs br bm Ds SS.empty.finals)
    (h0 : f 0 = .slice a l cap) (h3 : f 3 = .pointer (some ⟨bs, 0, none⟩)) (h4 : f 4 = .map (some bm))
    (hK : ∀ f' W' R' Ds' s' N' n', Keep [0, 2, 3, 4] f f' → OnSt w W' R' p s' N' n' bs br bm Ds' s'.finals → N' ≤ 120 → n' ≤ 60 → K (frD 200 f' Ds') W') :
    Code.wp Tryz.prog (lvFst (onB 5)) (Exit.then K Q) (frD 200 f Ds) W := by
  have hxl : xs.length = l := by
    obtain ⟨a', off, c, e, -⟩ := hxs.1
    injection e with e1 e2 e3; exact e2.symm
  rw [onB5_eq]
  refine wp_seq (onR7 W f Ds fun f1 k1 e5 => ?_)
  refine wp_block ?_
  refine wp_loop (OnI w p bs br bm l f) (OnM l) ⟨f1, Ds, R, _, 0, 0, 0, rfl, k1, e5, Nat.zero_le _, Nat.le_refl _, Nat.le_refl _, hS⟩ ?_
  rintro a' Wx ⟨f2, Ds2, R2, s, N, n, k, rfl, k2, e2, hk, hN, hn, hS2⟩
  have hm : OnM l (frD 200 f2 Ds2) Wx = l - k := by unfold OnM; rw [frD_get _ _ _ _ (by decide), e2]; simp [intOf]
  rw [hm, onL_eq]
  refine wp_seq (onR8 Wx k l cap a f2 Ds2 ((k2.at 0 (by decide)).trans h0) e2 (fun hlt f3 k3 => ?_) fun hlt f3 k3 => ?_)
  · have next : ∀ f' W' R' Ds' s' N' n', Keep [0, 2, 3, 4, 5] f3 f' → OnSt w W' R' p s' N' n' bs br bm Ds' s'.finals → N' ≤ N + 2 → n' ≤ n + 1 → Code.wp Tryz.prog (lvSnd (lvSnd onL)) (Exit.then (fun a' w' => OnI w p bs br bm l f a' w' ∧ OnM l a' w' < l - k) (Exit.inBlock 0 (Exit.then K Q))) (frD 200 f' Ds') W' := fun f' W' R' Ds' s' N' n' k' hS' hN' hn' => by
      have k23 := k3.trans k' fun _ h => h
      refine onR9 W' k (by omega) f' Ds' ((k23.at 5 (by decide)).trans e2) fun f6 k6 e6 => ⟨⟨f6, Ds', R', s', N', n', k + 1, rfl, (k2.trans k23 (by decide)).trans k6 fun _ h => h, e6, hlt, by omega, by omega, hS'⟩, ?_⟩
      unfold OnM
      rw [frD_get _ _ _ _ (by decide), e6]
      exact Nat.sub_lt_sub_left hlt (Nat.lt_succ_self k)
    have k03 : Keep [0, 2, 3, 4] f f3 := k2.trans k3 (by decide)
    refine wp_seq (wp_block ?_)
    exact wp_inB (onRound w Wx R2 p bs br bm b k l N n a cap s xs hxs hwf (by omega) f3 Ds2 hS2 (by omega) (by omega) ((k03.at 0 (by decide)).trans h0) ((k03.at 3 (by decide)).trans h3) ((k03.at 4 (by decide)).trans h4) ((k3.at 5 (by decide)).trans e2) next next)
  · exact hK f3 Wx R2 Ds2 s N n (k2.trans k3 (by decide)) hS2 (by omega) (by omega)
end Go.Proofs.YtefepfiijoafbaaGreat
namespace Go.Proofs.YtefepfiijoafbaaGreat
open Go.RowKit Go.Shelf Go.Maps
attribute [local go_sem] Oper.semAt_some
attribute [local go_sem ↓] Go.wp_at_zero Go.wp_at_succ
attribute [local irreducible] wpQuiet
set_option linter.unusedVariables false
set_option linter.unusedSimpArgs false

noncomputable def onF : Code := lvLoop (lvIn (lvSnd (lvFst (onB 6))))
theorem onB6_eq : onB 6 = .seq (.seq (lvFst (lvFst (onB 6))) (.block 8 (.loop onF))) (lvSnd (onB 6)) := by kernel_rfl
theorem viewF_u64 {G : Int → Option Int} {kl : Lit} {v : Value} (h : viewF G kl = some v) : ∃ x, v = Value.int .u64 x := by
  unfold viewF at h
  split at h
  · cases hg : G _ with
    | none => rw [hg] at h; cases h
    | some d => rw [hg] at h; exact ⟨d, (Option.some.inj h).symm⟩
  · cases h
set_option maxRecDepth 100000 in
set_option maxHeartbeats 4000000 in
theorem on41 {K : Act → World → Prop} {Q : Exit → Act → World → Prop} (W : World) (bm n : Nat) (F : Lit → Option Value) (hm : MapF Tryz.prog 33 W bm n F) (f : Nat → Value) (Ds : List Nat) (h4 : f 4 = .map (some bm))
    (hK : ∀ f' W' cnt, Keep [2, 3] f f' → f' 181 = .pointer (some ⟨W.heap.size, 0, none⟩) → MapR Tryz.prog 33 W' bm W.heap.size n F (fun kl => (F kl).isSome) cnt → Fr N0 W W' → K (frD 200 f' Ds) W') :
    Code.wp Tryz.prog (lvFst (lvFst (onB 6))) (Exit.then K Q) (frD 200 f Ds) W := by
  have HK := Lib.hid hK
  clear hK
  show Code.wp _ _ _ { tmps := #[f 0, f 1, f 2, f 3, f 4, f 5, f 6, f 7, f 8, f 9, f 10, f 11, f 12, f 13, f 14, f 15, f 16, f 17, f 18, f 19, f 20, f 21, f 22, f 23, f 24, f 25, f 26, f 27, f 28, f 29, f 30, f 31, f 32, f 33, f 34, f 35, f 36, f 37, f 38, f 39, f 40, f 41, f 42, f 43, f 44, f 45, f 46, f 47, f 48, f 49, f 50, f 51, f 52, f 53, f 54, f 55, f 56, f 57, f 58, f 59, f 60, f 61, f 62, f 63, f 64, f 65, f 66, f 67, f 68, f 69, f 70, f 71, f 72, f 73, f 74, f 75, f 76, f 77, f 78, f 79, f 80, f 81, f 82, f 83, f 84, f 85, f 86, f 87, f 88, f 89, f 90, f 91, f 92, f 93, f 94, f 95, f 96, f 97, f 98, f 99, f 100, f 101, f 102, f 103, f 104, f 105, f 106, f 107, f 108, f 109, f 110, f 111, f 112, f 113, f 114, f 115, f 116, f 117, f 118, f 119, f 120, f 121, f 122, f 123, f 124, f 125, f 126, f 127, f 128, f 129, f 130, f 131, f 132, f 133, f 134, f 135, f 136, f 137, f 138, f 139, f 140, f 141, f 142, f 143, f 144, f 145, f 146, f 147, f 148, f 149, f 150, f 151, f 152, f 153, f 154, f 155, f 156, f 157, f 158, f 159, f 160, f 161, f 162, f 163, f 164, f 165, f 166, f 167, f 168, f 169, f 170, f 171, f 172, f 173, f 174, f 175, f 176, f 177, f 178, f 179, f 180, f 181, f 182, f 183, f 184, f 185, f 186, f 187, f 188, f 189, f 190, f 191, f 192, f 193, f 194, f 195, f 196, f 197, f 198, f 199], defers := marks Ds } _
  rw [h4]
  clear h4
  conv => arg 2; whnf
  go_wp2_with (at_range; go_loud (refine wpList_rangeF2 _ rfl _ 44 rfl 33 33 lawU Tryz.underlying44 bm n F rfl hm ?_); intro w0 cnt0 hc0 hrg0 hf0 hs0)
  refine cut_useD (n := 200) (K := K) _ rfl ?_
  exact HK.out _ _ cnt0 (keep_mk rfl) rfl hrg0 hf0
set_option maxRecDepth 100000 in
set_option maxHeartbeats 4000000 in
theorem onFin {K : Act → World → Prop} {Q : Exit → Act → World → Prop} (W : World) (R : Nat → Prop) (p bs bm r n N : Nat) (s : SS) (left : Lit → Bool) (cnt : Nat) (hrg : MapR Tryz.prog 33 W bm r n (viewF s.finals) left cnt) (hl : ∀ kl, left kl = true → (viewF s.finals kl).isSome = true) (f : Nat → Value) (Ds : List Nat)
    (hst : IsState W R p s N) (hr : ¬ R r) (hbs : W.heap[bs]? = some (.cells #[.pointer (some ⟨p, 0, none⟩)] 27 (0, 0))) (hbr : bs ≠ r)
    (h3 : f 3 = .pointer (some ⟨bs, 0, none⟩)) (h181 : f 181 = .pointer (some ⟨r, 0, none⟩))
    (hK : ∀ f' W' left' cnt', Keep [2, 3, 181] f f' → MapR Tryz.prog 33 W' bm r n (viewF s.finals) left' cnt' → cnt' < cnt → (∀ kl, left' kl = true → (viewF s.finals kl).isSome = true) → Fr (fun j => j = r) W W' → K (frD 200 f' Ds) W')
    (hQ : ∀ f', Keep [2, 3] f f' → Q (.exit 8) (frD 200 f' Ds) W) :
    Code.wp Tryz.prog onF (Exit.then K Q) (frD 200 f Ds) W := by
  have HK := Lib.hid hK; have HQ := Lib.hid hQ; have HST := Lib.hid hst; have HR := Lib.hid hr; have HBS := Lib.hid hbs; have HL := Lib.hid hl; have H3 := Lib.hid h3; have H181 := Lib.hid h181
  clear hK hQ hst hr hbs hl
  show Code.wp _ _ _ { tmps := #[f 0, f 1, f 2, f 3, f 4, f 5, f 6, f 7, f 8, f 9, f 10, f 11, f 12, f 13, f 14, f 15, f 16, f 17, f 18, f 19, f 20, f 21, f 22, f 23, f 24, f 25, f 26, f 27, f 28, f 29, f 30, f 31, f 32, f 33, f 34, f 35, f 36, f 37, f 38, f 39, f 40, f 41, f 42, f 43, f 44, f 45, f 46, f 47, f 48, f 49, f 50, f 51, f 52, f 53, f 54, f 55, f 56, f 57, f 58, f 59, f 60, f 61, f 62, f 63, f 64, f 65, f 66, f 67, f 68, f 69, f 70, f 71, f 72, f 73, f 74, f 75, f 76, f 77, f 78, f 79, f 80, f 81, f 82, f 83, f 84, f 85, f 86, f 87, f 88, f 89, f 90, f 91, f 92, f 93, f 94, f 95, f 96, f 97, f 98, f 99, f 100, f 101, f 102, f 103, f 104, f 105, f 106, f 107, f 108, f 109, f 110, f 111, f 112, f 113, f 114, f 115, f 116, f 117, f 118, f 119, f 120, f 121, f 122, f 123, f 124, f 125, f 126, f 127, f 128, f 129, f 130, f 131, f 132, f 133, f 134, f 135, f 136, f 137, f 138, f 139, f 140, f 141, f 142, f 143, f 144, f 145, f 146, f 147, f 148, f 149, f 150, f 151, f 152, f 153, f 154, f 155, f 156, f 157, f 158, f 159, f 160, f 161, f 162, f 163, f 164, f 165, f 166, f 167, f 168, f 169, f 170, f 171, f 172, f 173, f 174, f 175, f 176, f 177, f 178, f 179, f 180, f 181, f 182, f 183, f 184, f 185, f 186, f 187, f 188, f 189, f 190, f 191, f 192, f 193, f 194, f 195, f 196, f 197, f 198, f 199], defers := marks Ds } _
  rw [h3, h181]
  clear h3 h181
  conv => arg 2; whnf
  go_wp2_with (at_next; go_loud (refine wpList_nextF _ rfl _ rfl 33 lawU (fun x : Int => Value.int .u64 x) (fun x : Int => Value.int .u64 x) (fun _ _ => invU) bm r n (viewF s.finals) left cnt (fun _ _ => viewF_u64) HL.out rfl hrg ?_ ?_))
  · intro _ _
    go_wp2_with fail
    refine cut_useQD (n := 200) (Q := Q) (e := .exit 8) _ rfl ?_
    exact HQ.out _ (keep_mk (by simp only [List.map_cons, List.map_nil, H3.out]; rfl))
  · intro x v kl w' cnt' hkey hlk hF hrg' hlt hfr' hsz hen
    obtain ⟨x', ex, rfl, hwf⟩ := Maps.keyOf_int_inv Tryz.underlying33 hkey
    injection ex with ex1 ex2
    subst ex2
    have hfin : s.finals x = some v := by
      rw [show (Lit.int .u64 x) = litU x from rfl, viewF_at] at hF
      cases hg : s.finals x with
      | none => rw [hg] at hF; cases hF
      | some d => rw [hg] at hF; injection hF with hF; injection hF with _ hF; exact congrArg some hF
    have hc := sFinalQ_any w' R p s N (HST.out.fr hfr' fun k hk e => HR.out (e ▸ hk)) x v hwf hfin
    have cs := cell_of_one ((hfr'.at (k := bs) hbr (lt_of_block HBS.out)).trans HBS.out)
    have HC := Lib.hid hc; have HRG := Lib.hid hrg'; have HFR := Lib.hid hfr'; have HLT := Lib.hid hlt; have HLK := Lib.hid hlk
    clear hc hrg' hfr' hlt hkey hlk hF hwf hfin hrg
    go_wp2_with fail
    refine HC.out.mono ?_
    rintro e w2 ⟨rfl, hf2⟩
    have HF2 := Lib.hid hf2
    clear hf2 cs hen
    go_wp2_with fail
    refine cut_useD (n := 200) (K := K) _ rfl ?_
    have z := HRG.out.lt
    exact HK.out _ w2 _ cnt' (keep_mk (by simp only [List.map_cons, List.map_nil, H3.out, H181.out]; rfl)) (HRG.out.fr HF2.out id id) HLT.out (left_next HL.out) (HFR.out.then0 HF2.out)
/-- The last loop. -/
theorem onLast {Q : Exit → Act → World → Prop} (W : World) (R : Nat → Prop) (p bs bm n N : Nat) (s : SS) (hm : MapF Tryz.prog 33 W bm n (viewF s.finals)) (f : Nat → Value) (Ds : List Nat) (hst : IsState W R p s N) (hR : ∀ k, R k → k < W.heap.size)
    (hbs : W.heap[bs]? = some (.cells #[.pointer (some ⟨p, 0, none⟩)] 27 (0, 0))) (h3 : f 3 = .pointer (some ⟨bs, 0, none⟩)) (h4 : f 4 = .map (some bm))
    (hK : ∀ f' W', f' 2 = f 2 → Fr N0 W W' → Code.wp Tryz.prog (lvSnd (onB 6)) Q (frD 200 f' Ds) W') :
    Code.wp Tryz.prog (onB 6) Q (frD 200 f Ds) W := by
  rw [onB6_eq]
  have lbs := lt_of_block hbs
  refine wp_seq (wp_seq (on41 W bm n _ hm f Ds h4 fun f1 W1 cnt k1 e181 hrg hf1 => ?_))
  refine wp_block ?_
  refine wp_loop (fun a Wx => ∃ f2 left cnt, a = frD 200 f2 Ds ∧ Keep [2, 3] f f2 ∧ f2 181 = .pointer (some ⟨W.heap.size, 0, none⟩) ∧ MapR Tryz.prog 33 Wx bm W.heap.size n (viewF s.finals) left cnt ∧ (∀ kl, left kl = true → (viewF s.finals kl).isSome = true) ∧ Fr N0 W Wx) (fun _ Wx => Wx.rangeLeft bm W.heap.size) ⟨f1, _, cnt, rfl, k1, e181, hrg, fun _ h => h, hf1⟩ ?_
  rintro a' Wx ⟨f2, left, cnt2, rfl, k2, e2, hrg2, hl2, hf2⟩
  refine onFin Wx R p bs bm W.heap.size n N s left cnt2 hrg2 hl2 f2 Ds (hst.fr hf2 fun _ _ => id) (fun h => by have := hR _ h; omega) ((hf2.at id lbs).trans hbs) (by omega) ((k2.at 3 (by decide)).trans h3) e2 (fun f3 W3 left3 cnt3 k3 hrg3 hlt hl3 hf3 => ⟨⟨f3, left3, cnt3, rfl, k2.trans (k3.sub (by decide)) fun _ h => h, (k3.at 181 (by decide)).trans e2, hrg3, hl3, fr_range hf2 hf3 (Nat.le_refl _)⟩, ?_⟩) fun f3 k3 => ?_
  · rw [hrg3.left_eq, hrg2.left_eq]; exact hlt
  · exact hK f3 Wx ((k3.at 2 (by decide)).trans (k2.at 2 (by decide))) hf2
end Go.Proofs.YtefepfiijoafbaaGreat
namespace Go.Proofs.YtefepfiijoafbaaGreat
open Go.RowKit Go.Shelf Go.Maps
attribute [local go_sem] Oper.semAt_some
attribute [local go_sem ↓] Go.wp_at_zero Go.wp_at_succ
attribute [local irreducible] wpQuiet
set_option linter.unusedVariables false
set_option linter.unusedSimpArgs false

set_option maxRecDepth 100000 in
set_option maxHeartbeats 4000000 in
theorem on0 {K : Act → World → Prop} {Q : Exit → Act → World → Prop} (W : World) (f : Nat → Value) (Ds : List Nat)
    (hK : ∀ f' W' br, Keep [0] f f' → f' 2 = .pointer (some ⟨br, 0, none⟩) → W.heap.size ≤ br → W'.heap[br]? = some (.cells #[.bool false] 4 (0, 0)) → Fr N0 W W' → K (frD 200 f' Ds) W') :
    Code.wp Tryz.prog (lvFst (onB 0)) (Exit.then K Q) (frD 200 f Ds) W := by
  have HK := Lib.hid hK
  clear hK
  show Code.wp _ _ _ { tmps := #[f 0, f 1, f 2, f 3, f 4, f 5, f 6, f 7, f 8, f 9, f 10, f 11, f 12, f 13, f 14, f 15, f 16, f 17, f 18, f 19, f 20, f 21, f 22, f 23, f 24, f 25, f 26, f 27, f 28, f 29, f 30, f 31, f 32, f 33, f 34, f 35, f 36, f 37, f 38, f 39, f 40, f 41, f 42, f 43, f 44, f 45, f 46, f 47, f 48, f 49, f 50, f 51, f 52, f 53, f 54, f 55, f 56, f 57, f 58, f 59, f 60, f 61, f 62, f 63, f 64, f 65, f 66, f 67, f 68, f 69, f 70, f 71, f 72, f 73, f 74, f 75, f 76, f 77, f 78, f 79, f 80, f 81, f 82, f 83, f 84, f 85, f 86, f 87, f 88, f 89, f 90, f 91, f 92, f 93, f 94, f 95, f 96, f 97, f 98, f 99, f 100, f 101, f 102, f 103, f 104, f 105, f 106, f 107, f 108, f 109, f 110, f 111, f 112, f 113, f 114, f 115, f 116, f 117, f 118, f 119, f 120, f 121, f 122, f 123, f 124, f 125, f 126, f 127, f 128, f 129, f 130, f 131, f 132, f 133, f 134, f 135, f 136, f 137, f 138, f 139, f 140, f 141, f 142, f 143, f 144, f 145, f 146, f 147, f 148, f 149, f 150, f 151, f 152, f 153, f 154, f 155, f 156, f 157, f 158, f 159, f 160, f 161, f 162, f 163, f 164, f 165, f 166, f 167, f 168, f 169, f 170, f 171, f 172, f 173, f 174, f 175, f 176, f 177, f 178, f 179, f 180, f 181, f 182, f 183, f 184, f 185, f 186, f 187, f 188, f 189, f 190, f 191, f 192, f 193, f 194, f 195, f 196, f 197, f 198, f 199], defers := marks Ds } _
  conv => arg 2; whnf
  go_wp2_with fail
  refine cut_useD (n := 200) (K := K) _ rfl ?_
  exact HK.out _ _ W.heap.size (keep_mk rfl) rfl (Nat.le_refl _) (World.alloc_heap_new _ _) ((Fr.refl _ _).alloc _)
set_option maxRecDepth 100000 in
set_option maxHeartbeats 4000000 in
theorem on1 {K : Act → World → Prop} {Q : Exit → Act → World → Prop} (W : World) (f : Nat → Value) (Ds : List Nat)
    (hK : ∀ f' W', Keep [0, 2] f f' → Fr N0 W W' → K (frD 200 f' Ds) W') :
    Code.wp Tryz.prog (lvFst (onB 1)) (Exit.then K Q) (frD 200 f Ds) W := by
  have HK := Lib.hid hK
  have HLV := Lib.hid (lsLives_any W)
  clear hK
  show Code.wp _ _ _ { tmps := #[f 0, f 1, f 2, f 3, f 4, f 5, f 6, f 7, f 8, f 9, f 10, f 11, f 12, f 13, f 14, f 15, f 16, f 17, f 18, f 19, f 20, f 21, f 22, f 23, f 24, f 25, f 26, f 27, f 28, f 29, f 30, f 31, f 32, f 33, f 34, f 35, f 36, f 37, f 38, f 39, f 40, f 41, f 42, f 43, f 44, f 45, f 46, f 47, f 48, f 49, f 50, f 51, f 52, f 53, f 54, f 55, f 56, f 57, f 58, f 59, f 60, f 61, f 62, f 63, f 64, f 65, f 66, f 67, f 68, f 69, f 70, f 71, f 72, f 73, f 74, f 75, f 76, f 77, f 78, f 79, f 80, f 81, f 82, f 83, f 84, f 85, f 86, f 87, f 88, f 89, f 90, f 91, f 92, f 93, f 94, f 95, f 96, f 97, f 98, f 99, f 100, f 101, f 102, f 103, f 104, f 105, f 106, f 107, f 108, f 109, f 110, f 111, f 112, f 113, f 114, f 115, f 116, f 117, f 118, f 119, f 120, f 121, f 122, f 123, f 124, f 125, f 126, f 127, f 128, f 129, f 130, f 131, f 132, f 133, f 134, f 135, f 136, f 137, f 138, f 139, f 140, f 141, f 142, f 143, f 144, f 145, f 146, f 147, f 148, f 149, f 150, f 151, f 152, f 153, f 154, f 155, f 156, f 157, f 158, f 159, f 160, f 161, f 162, f 163, f 164, f 165, f 166, f 167, f 168, f 169, f 170, f 171, f 172, f 173, f 174, f 175, f 176, f 177, f 178, f 179, f 180, f 181, f 182, f 183, f 184, f 185, f 186, f 187, f 188, f 189, f 190, f 191, f 192, f 193, f 194, f 195, f 196, f 197, f 198, f 199], defers := marks Ds } _
  conv => arg 2; whnf
  go_wp2_with fail
  refine HLV.out.mono ?_
  rintro e w1 ⟨rfl, hf1⟩
  have HF1 := Lib.hid hf1
  clear hf1
  go_wp2_with fail
  refine cut_useD (n := 200) (K := K) _ rfl ?_
  exact HK.out _ w1 (keep_mk rfl) HF1.out
set_option maxRecDepth 100000 in
set_option maxHeartbeats 4000000 in
theorem on3 {K : Act → World → Prop} {Q : Exit → Act → World → Prop} (W : World) (b br : Nat) (v : Value) (xs : List (Op × OpS)) (hl : Ops W b v xs) (hres : W.heap[br]? = some (.cells #[.bool false] 4 (0, 0))) (f : Nat → Value) (Ds : List Nat) (h0 : f 0 = v) (h2 : f 2 = .pointer (some ⟨br, 0, none⟩))
    (hK : xs.length ≤ 60 → ∀ f' W', Keep [0, 2] f f' → Fr N0 W W' → K (frD 200 f' Ds) W') (hQ : ∀ f' W', Keep [2] f f' → W'.heap[br]? = some (.cells #[.bool true] 4 (0, 0)) → Fr (fun k => k = br) W W' → Q .ret (frD 200 f' Ds) W') :
    Code.wp Tryz.prog (lvFst (onB 2)) (Exit.then K Q) (frD 200 f Ds) W := by
  have HSM := Lib.hid (lsSmall_any W b v xs hl)
  have HK := Lib.hid hK; have HQ := Lib.hid hQ; have HRES := Lib.hid hres; have H0 := Lib.hid h0; have H2 := Lib.hid h2
  clear hK hQ hl hres
  show Code.wp _ _ _ { tmps := #[f 0, f 1, f 2, f 3, f 4, f 5, f 6, f 7, f 8, f 9, f 10, f 11, f 12, f 13, f 14, f 15, f 16, f 17, f 18, f 19, f 20, f 21, f 22, f 23, f 24, f 25, f 26, f 27, f 28, f 29, f 30, f 31, f 32, f 33, f 34, f 35, f 36, f 37, f 38, f 39, f 40, f 41, f 42, f 43, f 44, f 45, f 46, f 47, f 48, f 49, f 50, f 51, f 52, f 53, f 54, f 55, f 56, f 57, f 58, f 59, f 60, f 61, f 62, f 63, f 64, f 65, f 66, f 67, f 68, f 69, f 70, f 71, f 72, f 73, f 74, f 75, f 76, f 77, f 78, f 79, f 80, f 81, f 82, f 83, f 84, f 85, f 86, f 87, f 88, f 89, f 90, f 91, f 92, f 93, f 94, f 95, f 96, f 97, f 98, f 99, f 100, f 101, f 102, f 103, f 104, f 105, f 106, f 107, f 108, f 109, f 110, f 111, f 112, f 113, f 114, f 115, f 116, f 117, f 118, f 119, f 120, f 121, f 122, f 123, f 124, f 125, f 126, f 127, f 128, f 129, f 130, f 131, f 132, f 133, f 134, f 135, f 136, f 137, f 138, f 139, f 140, f 141, f 142, f 143, f 144, f 145, f 146, f 147, f 148, f 149, f 150, f 151, f 152, f 153, f 154, f 155, f 156, f 157, f 158, f 159, f 160, f 161, f 162, f 163, f 164, f 165, f 166, f 167, f 168, f 169, f 170, f 171, f 172, f 173, f 174, f 175, f 176, f 177, f 178, f 179, f 180, f 181, f 182, f 183, f 184, f 185, f 186, f 187, f 188, f 189, f 190, f 191, f 192, f 193, f 194, f 195, f 196, f 197, f 198, f 199], defers := marks Ds } _
  rw [h0, h2]
  clear h0 h2
  conv => arg 2; whnf
  go_wp2_with fail
  refine HSM.out.mono ?_
  rintro e w2 ⟨⟨r, rfl, hr⟩, hf2⟩
  have hres2 := (hf2.at (k := br) id (lt_of_block HRES.out)).trans HRES.out
  have cr := cell_of_one hres2
  have fr := free_of_one hres2
  have HF2 := Lib.hid hf2; have HRES2 := Lib.hid hres2
  clear hf2 hres2
  cases r with
  | false =>
    clear hr
    go_wp2_with fail
    refine cut_useQD (n := 200) (Q := Q) (e := .ret) _ rfl ?_
    exact HQ.out _ _ (keep_mk (by simp only [List.map_cons, List.map_nil, H2.out]; rfl)) (one_setCell HRES2.out) ((HF2.out.mono (T' := fun k => k = br) fun _ h => h.elim).setCell (.inl rfl) _)
  | true =>
    have HX := Lib.hid (hr rfl)
    clear hr
    go_wp2_with fail
    refine cut_useD (n := 200) (K := K) _ rfl ?_
    exact HK.out HX.out _ w2 (keep_mk (by simp only [List.map_cons, List.map_nil, H0.out, H2.out]; rfl)) HF2.out
set_option maxRecDepth 100000 in
set_option maxHeartbeats 4000000 in
theorem on5 {K : Act → World → Prop} {Q : Exit → Act → World → Prop} (W : World) (f : Nat → Value) (Ds : List Nat)
    (hK : ∀ f' W' p R bs, Keep [0, 2] f f' → f' 3 = .pointer (some ⟨bs, 0, none⟩) → W'.heap[bs]? = some (.cells #[.pointer (some ⟨p, 0, none⟩)] 27 (0, 0)) → Live W W' R p SS.empty 0 → ¬ R bs → W.heap.size ≤ bs → K (frD 200 f' Ds) W') :
    Code.wp Tryz.prog (lvFst (onB 3)) (Exit.then K Q) (frD 200 f Ds) W := by
  have HK := Lib.hid hK
  have HNEW := Lib.hid (live_new W)
  clear hK
  show Code.wp _ _ _ { tmps := #[f 0, f 1, f 2, f 3, f 4, f 5, f 6, f 7, f 8, f 9, f 10, f 11, f 12, f 13, f 14, f 15, f 16, f 17, f 18, f 19, f 20, f 21, f 22, f 23, f 24, f 25, f 26, f 27, f 28, f 29, f 30, f 31, f 32, f 33, f 34, f 35, f 36, f 37, f 38, f 39, f 40, f 41, f 42, f 43, f 44, f 45, f 46, f 47, f 48, f 49, f 50, f 51, f 52, f 53, f 54, f 55, f 56, f 57, f 58, f 59, f 60, f 61, f 62, f 63, f 64, f 65, f 66, f 67, f 68, f 69, f 70, f 71, f 72, f 73, f 74, f 75, f 76, f 77, f 78, f 79, f 80, f 81, f 82, f 83, f 84, f 85, f 86, f 87, f 88, f 89, f 90, f 91, f 92, f 93, f 94, f 95, f 96, f 97, f 98, f 99, f 100, f 101, f 102, f 103, f 104, f 105, f 106, f 107, f 108, f 109, f 110, f 111, f 112, f 113, f 114, f 115, f 116, f 117, f 118, f 119, f 120, f 121, f 122, f 123, f 124, f 125, f 126, f 127, f 128, f 129, f 130, f 131, f 132, f 133, f 134, f 135, f 136, f 137, f 138, f 139, f 140, f 141, f 142, f 143, f 144, f 145, f 146, f 147, f 148, f 149, f 150, f 151, f 152, f 153, f 154, f 155, f 156, f 157, f 158, f 159, f 160, f 161, f 162, f 163, f 164, f 165, f 166, f 167, f 168, f 169, f 170, f 171, f 172, f 173, f 174, f 175, f 176, f 177, f 178, f 179, f 180, f 181, f 182, f 183, f 184, f 185, f 186, f 187, f 188, f 189, f 190, f 191, f 192, f 193, f 194, f 195, f 196, f 197, f 198, f 199], defers := marks Ds } _
  conv => arg 2; whnf
  go_wp2_with fail
  refine HNEW.out.mono ?_
  rintro e w1 ⟨p, R, rfl, hL⟩
  have HL := Lib.hid hL
  clear hL
  go_wp2_with fail
  refine cut_useD (n := 200) (K := K) _ rfl ?_
  exact HK.out _ _ p R w1.heap.size (keep_mk rfl) rfl (World.alloc_heap_new _ _) (HL.out.fr ((Fr.refl N0 w1).alloc _)) (fun h => by have := (HL.out.2.2.1 _ h).2; omega) HL.out.2.2.2.size
set_option maxRecDepth 100000 in
set_option maxHeartbeats 4000000 in
theorem on6 {K : Act → World → Prop} {Q : Exit → Act → World → Prop} (W : World) (f : Nat → Value) (Ds : List Nat)
    (hK : ∀ f' W' bm, Keep [0, 2, 3] f f' → f' 4 = .map (some bm) → W.heap.size ≤ bm → MapF Tryz.prog 33 W' bm 0 (fun _ => none) → Fr N0 W W' → K (frD 200 f' Ds) W') :
    Code.wp Tryz.prog (lvFst (onB 4)) (Exit.then K Q) (frD 200 f Ds) W := by
  have HK := Lib.hid hK
  clear hK
  have hmm := @run_makeMap Tryz.prog
  show Code.wp _ _ _ { tmps := #[f 0, f 1, f 2, f 3, f 4, f 5, f 6, f 7, f 8, f 9, f 10, f 11, f 12, f 13, f 14, f 15, f 16, f 17, f 18, f 19, f 20, f 21, f 22, f 23, f 24, f 25, f 26, f 27, f 28, f 29, f 30, f 31, f 32, f 33, f 34, f 35, f 36, f 37, f 38, f 39, f 40, f 41, f 42, f 43, f 44, f 45, f 46, f 47, f 48, f 49, f 50, f 51, f 52, f 53, f 54, f 55, f 56, f 57, f 58, f 59, f 60, f 61, f 62, f 63, f 64, f 65, f 66, f 67, f 68, f 69, f 70, f 71, f 72, f 73, f 74, f 75, f 76, f 77, f 78, f 79, f 80, f 81, f 82, f 83, f 84, f 85, f 86, f 87, f 88, f 89, f 90, f 91, f 92, f 93, f 94, f 95, f 96, f 97, f 98, f 99, f 100, f 101, f 102, f 103, f 104, f 105, f 106, f 107, f 108, f 109, f 110, f 111, f 112, f 113, f 114, f 115, f 116, f 117, f 118, f 119, f 120, f 121, f 122, f 123, f 124, f 125, f 126, f 127, f 128, f 129, f 130, f 131, f 132, f 133, f 134, f 135, f 136, f 137, f 138, f 139, f 140, f 141, f 142, f 143, f 144, f 145, f 146, f 147, f 148, f 149, f 150, f 151, f 152, f 153, f 154, f 155, f 156, f 157, f 158, f 159, f 160, f 161, f 162, f 163, f 164, f 165, f 166, f 167, f 168, f 169, f 170, f 171, f 172, f 173, f 174, f 175, f 176, f 177, f 178, f 179, f 180, f 181, f 182, f 183, f 184, f 185, f 186, f 187, f 188, f 189, f 190, f 191, f 192, f 193, f 194, f 195, f 196, f 197, f 198, f 199], defers := marks Ds } _
  conv => arg 2; whnf
  go_wp2_with fail
  refine cut_useD (n := 200) (K := K) _ rfl ?_
  exact HK.out _ _ W.heap.size (keep_mk rfl) rfl (Nat.le_refl _) (MapF.made _ _ _) ((Fr.refl _ _).alloc _)
set_option maxRecDepth 100000 in
set_option maxHeartbeats 4000000 in
theorem on47 {Q : Exit → Act → World → Prop} (W : World) (br : Nat) (hres : W.heap[br]? = some (.cells #[.bool false] 4 (0, 0))) (f : Nat → Value) (Ds : List Nat) (h2 : f 2 = .pointer (some ⟨br, 0, none⟩))
    (hQ : ∀ f' W', Keep [2] f f' → W'.heap[br]? = some (.cells #[.bool true] 4 (0, 0)) → Fr (fun k => k = br) W W' → Q .ret (frD 200 f' Ds) W') :
    Code.wp Tryz.prog (lvSnd (onB 6)) Q (frD 200 f Ds) W := by
  have cr := cell_of_one hres
  have fr := free_of_one hres
  have HQ := Lib.hid hQ; have HRES := Lib.hid hres; have H2 := Lib.hid h2
  clear hQ hres
  show Code.wp _ _ _ { tmps := #[f 0, f 1, f 2, f 3, f 4, f 5, f 6, f 7, f 8, f 9, f 10, f 11, f 12, f 13, f 14, f 15, f 16, f 17, f 18, f 19, f 20, f 21, f 22, f 23, f 24, f 25, f 26, f 27, f 28, f 29, f 30, f 31, f 32, f 33, f 34, f 35, f 36, f 37, f 38, f 39, f 40, f 41, f 42, f 43, f 44, f 45, f 46, f 47, f 48, f 49, f 50, f 51, f 52, f 53, f 54, f 55, f 56, f 57, f 58, f 59, f 60, f 61, f 62, f 63, f 64, f 65, f 66, f 67, f 68, f 69, f 70, f 71, f 72, f 73, f 74, f 75, f 76, f 77, f 78, f 79, f 80, f 81, f 82, f 83, f 84, f 85, f 86, f 87, f 88, f 89, f 90, f 91, f 92, f 93, f 94, f 95, f 96, f 97, f 98, f 99, f 100, f 101, f 102, f 103, f 104, f 105, f 106, f 107, f 108, f 109, f 110, f 111, f 112, f 113, f 114, f 115, f 116, f 117, f 118, f 119, f 120, f 121, f 122, f 123, f 124, f 125, f 126, f 127, f 128, f 129, f 130, f 131, f 132, f 133, f 134, f 135, f 136, f 137, f 138, f 139, f 140, f 141, f 142, f 143, f 144, f 145, f 146, f 147, f 148, f 149, f 150, f 151, f 152, f 153, f 154, f 155, f 156, f 157, f 158, f 159, f 160, f 161, f 162, f 163, f 164, f 165, f 166, f 167, f 168, f 169, f 170, f 171, f 172, f 173, f 174, f 175, f 176, f 177, f 178, f 179, f 180, f 181, f 182, f 183, f 184, f 185, f 186, f 187, f 188, f 189, f 190, f 191, f 192, f 193, f 194, f 195, f 196, f 197, f 198, f 199], defers := marks Ds } _
  rw [h2]
  clear h2
  conv => arg 2; whnf
  go_wp2_with fail
  refine cut_useQD (n := 200) (Q := Q) (e := .ret) _ rfl ?_
  exact HQ.out _ _ (keep_mk (by simp only [List.map_cons, List.map_nil, H2.out]; rfl)) (one_setCell HRES.out) ((Fr.refl (fun k => k = br) W).setCell (.inl rfl) _)
theorem Live.onto {w w2 W : World} {R : Nat → Prop} {p N : Nat} {s : SS} (h : Live w2 W R p s N) (hf : Fr N0 w w2) : Live w W R p s N :=
  ⟨h.1, h.2.1, fun k hk => ⟨Nat.le_trans hf.size (h.2.2.1 k hk).1, (h.2.2.1 k hk).2⟩, hf.then0 h.2.2.2⟩
theorem onB0_eq : onB 0 = .seq (lvFst (onB 0)) (.seq (lvFst (onB 1)) (.seq (lvFst (onB 2)) (.seq (lvFst (onB 3)) (.seq (lvFst (onB 4)) (.seq (lvFst (onB 5)) (onB 6)))))) := by kernel_rfl
theorem lsOnce_body : Tryz.f4.body = some (onB 0) := by kernel_rfl
theorem lsOnce_results : Tryz.f4.results = #[.cell 2 4] := by kernel_rfl
set_option maxRecDepth 100000 in
set_option maxHeartbeats 4000000 in
theorem lsOnce_load (W : World) (br : Nat) (h : W.heap[br]? = some (.cells #[.bool true] 4 (0, 0))) (f : Nat → Value) (h2 : f 2 = .pointer (some ⟨br, 0, none⟩)) : (results Tryz.f4 ((List.range 200).map f).toArray).run Tryz.prog W = .ok (.bool true) W := by
  have c := cell_of_one h
  unfold results
  rw [lsOnce_results]
  simp [go_sem, h2, c]
set_option maxRecDepth 100000 in
set_option maxHeartbeats 4000000 in
theorem lsOnce_any (w : World) (b : Nat) (v : Value) (xs : List (Op × OpS)) (hl : Ops w b v xs) (hwf : ∀ x ∈ xs, x.1.wf) :
    Calls Tryz.prog 4 #[v] w fun e w' => e = .returned (.bool true) ∧ Fr N0 w w' := by
  have hl' := hl.1
  obtain ⟨a, off, cap, rfl, -⟩ := hl'
  have hfr : ∀ W, Fr N0 w W → Ops W b (.slice a xs.length cap) xs := fun W hf => ⟨hl.1.fr0 opE_len hf, fun x hx => by
    obtain ⟨g1, g2⟩ := hl.2 x hx
    refine ⟨g1.imp fun _ h => Wrs.fr0 h hf, ?_⟩
    obtain ⟨b, cms, h1, h2⟩ := g2
    exact ⟨b, cms, RowsK.fr0 (enc := CmV.enc) (n := 2) (fun _ => rfl) h1 hf, fun c hc => by
      obtain ⟨b', ys, h3⟩ := h2 c hc
      exact ⟨b', ys, Wrs.fr0 h3 hf⟩⟩⟩
  have leave : ∀ (f : Nat → Value) (Ds : List Nat) (W : World) (br : Nat), f 2 = .pointer (some ⟨br, 0, none⟩) → W.heap[br]? = some (.cells #[.bool true] 4 (0, 0)) → Marked W Ds → (∀ D ∈ Ds, D ≠ br ∧ w.heap.size ≤ D) → Fr N0 w W →
      LeavesInM Fence.wide 5 Tryz.prog Tryz.f4 (frD 200 f Ds).tmps (fun e w' => e = .returned (.bool true) ∧ Fr N0 w w') (frD 200 f Ds).defers .returning W := fun f Ds W br h2 hres hm hne hf =>
    leaves_marks Ds W hm fun W' hf' => ⟨_, lsOnce_load W' br ((hf'.at (k := br) (fun h => (hne br h).1 rfl) (lt_of_block hres)).trans hres) f h2, rfl, hf.trans hf' fun k hk => .inr (hne k hk).2⟩
  refine (callsIn_wide (n := 5)).1 (callsIn_of_wp_marks Tryz.func4 lsOnce_body trivial (wpIn_wide.2 ?_) rfl)
  simp only [Tryz.ntmps4, List.size_toArray, List.length_cons, List.length_nil, Nat.reduceAdd, Nat.reduceSub, Array.replicate_succ, Array.replicate_zero, List.push_toArray, List.append_toArray, List.nil_append, List.cons_append]
  refine wp_frD (n := 200) (Ds := []) _ rfl ?_
  refine (show ∀ f0 : Nat → Value, f0 0 = .slice a xs.length cap → Code.wp Tryz.prog (onB 0) _ (frD 200 f0 []) w from fun f0 e0 => ?_) _ rfl
  rw [onB0_eq]
  refine wp_seq (on0 w f0 [] fun f1 W1 br k1 e2 hbr hres1 hf1 => ?_)
  refine wp_seq (on1 W1 f1 [] fun f2 W2 k2 hf2 => ?_)
  have hres2 := (hf2.at (k := br) id (lt_of_block hres1)).trans hres1
  have hf02 := hf1.then0 hf2
  have g2 := (k2.at 2 (by decide)).trans e2
  have g0 := (k2.at 0 (by decide)).trans ((k1.at 0 (by decide)).trans e0)
  refine wp_seq (on3 W2 b br _ xs (hfr W2 hf02) hres2 f2 [] g0 g2 (fun h60 f3 W3 k3 hf3 => ?_) fun f3 W3 k3 hres3 hf3 => ?_)
  · have hres3 := (hf3.at (k := br) id (lt_of_block hres2)).trans hres2
    have hf03 := hf02.then0 hf3
    have lbr := lt_of_block hres3
    refine wp_seq (on5 W3 f3 [] fun f4 W4 p R bs k4 e3 hbs hL hnb hbs3 => ?_)
    have hres4 := (hL.2.2.2.at (k := br) id lbr).trans hres3
    have lbs := lt_of_block hbs
    refine wp_seq (on6 W4 f4 [] fun f5 W5 bm k5 e4 hbm hm hf5 => ?_)
    have z5 := hf5.size
    have z3 := hL.2.2.2.size
    have z0 := hf03.size
    have hL5 := Live.onto (hL.fr hf5) hf03
    have k35 : Keep [0, 2] f3 f5 := k4.trans (k5.sub (m := [0, 2, 3]) (l := [0, 2]) (by decide)) fun _ h => h
    have d0 : f5 0 = .slice a xs.length cap := (k35.at 0 (by decide)).trans ((k3.at 0 (by decide)).trans g0)
    have d2 : f5 2 = .pointer (some ⟨br, 0, none⟩) := (k35.at 2 (by decide)).trans ((k3.at 2 (by decide)).trans g2)
    have d3 : f5 3 = .pointer (some ⟨bs, 0, none⟩) := (k5.at 3 (by decide)).trans e3
    have hS : OnSt w W5 R p SS.empty 0 0 bs br bm [] SS.empty.finals :=
      { live := hL5
        inv := onceInv_empty
        map := by
          have : viewF SS.empty.finals = fun _ => none := by
            funext kl; cases h : viewF SS.empty.finals kl with
            | none => rfl
            | some x => unfold viewF at h; split at h <;> cases h
          rw [this]; exact hm
        box := (hf5.at (k := bs) id lbs).trans hbs
        res := (hf5.at (k := br) id (lt_of_block hres4)).trans hres4
        mks := ⟨List.nodup_nil, fun D h => by cases h⟩
        apart := fun k hk => by
          rcases hk with rfl | rfl | rfl | hk
          · exact ⟨hnb, by omega⟩
          · exact ⟨fun h => by have := (hL.2.2.1 _ h).1; omega, hbr⟩
          · exact ⟨fun h => by have := (hL.2.2.1 _ h).2; omega, by omega⟩
          · cases hk
        ne := ⟨by omega, by omega, by have := lt_of_block hres4; omega, fun D h => by cases h⟩ }
    refine wp_seq (onLoop w W5 R p bs br bm b xs.length a cap xs hl hwf h60 f5 [] hS d0 d3 e4 fun f6 W6 R6 Ds s N n k6 hS6 hN hn => ?_)
    refine onLast W6 R6 p bs bm n N s hS6.map f6 Ds hS6.live.1 (fun k hk => (hS6.live.2.2.1 k hk).2) hS6.box ((k6.at 3 (by decide)).trans d3) ((k6.at 4 (by decide)).trans e4) fun f7 W7 e72 hf7 => ?_
    have g72 := e72.trans ((k6.at 2 (by decide)).trans d2)
    refine on47 W7 br ((hf7.at (k := br) id (lt_of_block hS6.res)).trans hS6.res) f7 Ds g72 fun f8 W8 k8 hres8 hf8 => ?_
    have hfw7 := hS6.live.2.2.2.then0 hf7
    exact leave f8 Ds W8 br ((k8.at 2 (by decide)).trans g72) hres8 ((hS6.mks.fr hf7 fun _ _ => id).fr hf8 fun D hD => (hS6.ne.2.2.2 D hD).2.1) (fun D hD => ⟨(hS6.ne.2.2.2 D hD).2.1, (hS6.apart D (.inr (.inr (.inr hD)))).2⟩) (hfw7.trans hf8 fun k hk => .inr (by omega))
  · exact leave f3 [] W3 br ((k3.at 2 (by decide)).trans g2) hres3 ⟨List.nodup_nil, fun D h => by cases h⟩ (fun D h => by cases h) (hf02.trans hf3 fun k hk => .inr (by omega))
end Go.Proofs.YtefepfiijoafbaaGreat
