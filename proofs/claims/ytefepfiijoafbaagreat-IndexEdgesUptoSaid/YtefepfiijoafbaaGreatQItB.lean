/- index.at's loop: a value is put to its node. (Printed by mkit.py and mkheld.py.) index.at's loop: a node is put to its value. (Printed by mkit.py and mkheld.py.) -/
import Derived.Deep.AppendLies
import Derived.Test.YtefepfiijoafbaaGreatQLookP
import Derived.Test.YtefepfiijoafbaaGreatQRangeA
import Derived.Test.YtefepfiijoafbaaGreatQPAt
import Derived.Test.YtefepfiijoafbaaGreatQValR
namespace Go.Proofs.YtefepfiijoafbaaGreat
open Go.RowKit Go.Shelf Go.Maps
attribute [local go_sem] Oper.semAt_some
attribute [local irreducible] wpQuiet
set_option linter.unusedVariables false
set_option linter.unusedSimpArgs false

/-- The loop's boxes: of the look, the look itself, the triple. -/
abbrev ItS (b5 px b6 bn bb : Nat) (t : Int) (q : ByteArray) (x : Int × Val) (W : World) : Prop :=
  W.cell? ⟨b5, 0, none⟩ = some (.pointer (some ⟨px, 0, none⟩)) ∧ (W.cell? ⟨px, 1, none⟩ = some (.map (some bn)) ∧ W.cell? ⟨px, 2, none⟩ = some (.map (some bb))) ∧
  W.cell? ⟨b6, 0, none⟩ = some (.int .u64 x.1) ∧ W.cell? ⟨b6, 2, none⟩ = some (.int .u8 x.2.k) ∧ W.cell? ⟨b6, 3, none⟩ = some (.bool x.2.b) ∧ W.cell? ⟨b6, 4, none⟩ = some (.int .i64 x.2.n) ∧ W.cell? ⟨b6, 5, none⟩ = some (.string x.2.s) ∧ W.cell? ⟨b6, 6, none⟩ = some (.int .u64 x.2.u)
theorem itS_fr {T : Nat → Prop} {b5 px b6 bn bb : Nat} {t : Int} {q : ByteArray} {x : Int × Val} {A B : World} (hf : Fr T A B) (h5 : ¬ T b5) (hx : ¬ T px) (h6 : ¬ T b6) (h : ItS b5 px b6 bn bb t q x A) : ItS b5 px b6 bn bb t q x B :=
  ⟨hf.cell h5 h.1, ⟨hf.cell hx h.2.1.1, hf.cell hx h.2.1.2⟩, hf.cell h6 h.2.2.1, hf.cell h6 h.2.2.2.1, hf.cell h6 h.2.2.2.2.1, hf.cell h6 h.2.2.2.2.2.1, hf.cell h6 h.2.2.2.2.2.2.1, hf.cell h6 h.2.2.2.2.2.2.2⟩

def itBody : Code → Code
  | .block _ c => itBody c
  | .rangeFunc _ _ _ b => itBody b
  | c => c
def itSnd : Code → Code
  | .seq _ b => b
  | c => c
noncomputable def itLoop : Code := itBody (itSnd (lvFst (lvSuf 2 ((Tryz.f83.body).getD .skip))))
noncomputable def itC4 : Code := lvFst itLoop

set_option maxRecDepth 100000 in
set_option maxHeartbeats 8000000 in
theorem itR4 (l : Nat) {Q : Exit → Act → World → Prop} (W : World) (lo b5 px b6 bn bb N : Nat) (t : Int) (q : ByteArray) (x : Int × Val) (H : Int → List Val) (F : Lit → Option Value) (g : Int → Nat) (R : Nat → Prop) (f : Nat → Value)
    (hS : ItS b5 px b6 bn bb t q x W) (hm : MapF Tryz.prog 33 W bn N F) (hr : OwnR Val.enc 5 57 W lo bn H F g R) (hlo : lo ≤ W.heap.size) (hN : N ≤ 10000000000) (hl : (H (x.1)).length ≤ 10000000000) (hwf : (Lit.int .u64 (x.1)).wf = true)
    (h5R : ¬ R b5 ∧ b5 ≠ bn) (hxR : ¬ R px ∧ px ≠ bn) (h6R : ¬ R b6 ∧ b6 ≠ bn) (hbl : lo ≤ bn)
    (h5 : f 5 = .pointer (some ⟨b5, 0, none⟩)) (h6 : f 6 = .pointer (some ⟨b6, 0, none⟩))
    (hK : ∀ f' W' v' g' g2, f' 5 = f 5 → f' 6 = f 6 → ItS b5 px b6 bn bb t q x W' → MapF Tryz.prog 33 W' bn (N + 1) (putF F (litU (x.1)) (some v')) → OwnR Val.enc 5 57 W' lo bn (updV H (x.1) (H (x.1) ++ [x.2])) (putF F (litU (x.1)) (some v')) g2 (fun j => R j ∨ j = g') →
      (R g' ∨ W.heap.size ≤ g') → Fr (fun j => j = bn ∨ R j) W W' → Q .normal (frA 57 f') W') :
    (itC4).wpIn (Fence.wide.inRound l) 7 Tryz.prog Q (frA 57 f) W := by
  obtain ⟨v0, hv0, hrow0, hown0⟩ := hr.at (x.1)
  have hku := keyOf_int_mk (P := Tryz.prog) Tryz.underlying33 hwf
  have hlk : ∀ w', Fr N0 W w' → (Instr.lookup 165 (.map (some bn)) (.int .u64 (x.1)) false).run Tryz.prog w' = .ok v0 w' := fun w' hf => by
    have := ((hm.fr hf id).look lawU Tryz.underlying165 (zeroValsR _) hku).1
    rw [← hv0]; exact this
  obtain ⟨i0, hi, hz0, hz1, hz2⟩ := info_parts val_info
  have hbn := hm.lt
  have hown : ∀ j, v0.ownBlock = some j → R j ∧ lo ≤ j := fun j hj => by
    rcases hown0 with h | ⟨h0, h⟩
    · rw [h] at hj; cases hj
    · rw [h] at hj; obtain rfl := Option.some.inj hj; exact ⟨hr.inR _ h0, (hr.lt _ (hr.inR _ h0)).1⟩
  have happ : ∀ (w1 w2 w3 : World) (v' : Value) (g' cap : Nat), Fr N0 W w1 → v' = .slice (some ⟨g', 0, none⟩) ((H (x.1)).length + 1) cap → w2.ownsRow lo 57 5 v' ((H (x.1)).length + 1) ((H (x.1)).flatMap Val.enc ++ Val.enc (x.2)) → w1.grownBy w2 v0.ownBlock → (v0.ownBlock = some g' ∨ g' = w1.heap.size) → g' < w2.heap.size → MapF Tryz.prog 33 w3 bn (N + 1) (putF F (litU (x.1)) (some v')) → Fr (fun j => j = bn) w2 w3 →
      ∃ g2, OwnR Val.enc 5 57 w3 lo bn (updV H (x.1) (H (x.1) ++ [x.2])) (putF F (litU (x.1)) (some v')) g2 (fun j => R j ∨ j = g') ∧ (R g' ∨ W.heap.size ≤ g') ∧ Fr (fun j => j = bn ∨ R j) W w3 := fun w1 w2 w3 v' g' cap hf he hrow hg hfresh hlt hm3 hf3 => by
    have hz := hf.size
    have hfr2 : Fr (fun j => v0.ownBlock = some j) w1 w2 := (Fr.refl _ _).grown hg fun j e => .inl e
    have hg0 : R g' ∨ W.heap.size ≤ g' := by
      rcases hfresh with h | h
      · exact .inl (hown g' h).1
      · exact .inr (by omega)
    have hgb : g' ≠ bn := fun e => by
      rcases hg0 with h | h
      · exact (hr.lt _ h).2.2 e
      · omega
    have hglo : lo ≤ g' := by
      rcases hg0 with h | h
      · exact (hr.lt _ h).1
      · omega
    obtain ⟨g2, hp⟩ := hr.push (x.1) (x.2) (v0 := v0) (v' := v') (g' := g') (n := (H (x.1)).length + 1) hown0 hf (by simpa using hrow) (by simp) hfr2 (by rw [he]; rfl) (hfresh.imp id (fun h => by omega)) hglo hlt hgb hf3
    refine ⟨g2, hp, hg0, ?_⟩
    refine (((hf.mono (T' := fun j => j = bn ∨ R j) fun _ h => h.elim).trans hfr2 fun j hj => .inl (.inr (hown j hj).1)).trans hf3 fun j hj => .inl (.inl hj))
  have hSk : ∀ (A B : World), Fr (fun j => j = bn ∨ R j) A B → ItS b5 px b6 bn bb t q x A → ItS b5 px b6 bn bb t q x B := fun A B hf h =>
    itS_fr hf (fun h => h.elim h5R.2 h5R.1) (fun h => h.elim hxR.2 hxR.1) (fun h => h.elim h6R.2 h6R.1) h
  have hown2 : ∀ j, v0.ownBlock = some j → R j ∧ j ≠ bn := fun j hj => ⟨(hown j hj).1, (hr.lt _ (hown j hj).1).2.2⟩
  obtain ⟨n, hn⟩ : ∃ n, (H (x.1)).length = n := ⟨_, rfl⟩
  obtain ⟨row, hrw⟩ : ∃ r, (H (x.1)).flatMap Val.enc = r := ⟨_, rfl⟩
  rw [hn, hrw] at hrow0 happ
  rw [hn] at hl
  have HK := Lib.hid hK; have HM := Lib.hid hm; have HKU := Lib.hid hku; have HLK := Lib.hid hlk; have HROW := Lib.hid hrow0; have HAPP := Lib.hid happ; have HSK := Lib.hid hSk; have HOWN := Lib.hid hown2; have H5 := Lib.hid h5; have H6 := Lib.hid h6
  have hcur : ItS b5 px b6 bn bb t q x W.drew := hSk _ _ (Fr.refl _ _).drew hS
  have hcur0 := hS
  have HF0 : Hid (Fr N0 W W.drew) := Lib.hid (Fr.refl _ _).drew
  clear hK hm hku hlk hrow0 happ hSk hown2 hown hr hown0 hS hv0 hrw hn h5R hxR h6R hwf
  obtain ⟨u, ⟨vk, vb, vn, vs, vu⟩⟩ := x
  simp only at *
  show Code.wpIn _ _ _ _ _ { tmps := #[f 0, f 1, f 2, f 3, f 4, f 5, f 6, f 7, f 8, f 9, f 10, f 11, f 12, f 13, f 14, f 15, f 16, f 17, f 18, f 19, f 20, f 21, f 22, f 23, f 24, f 25, f 26, f 27, f 28, f 29, f 30, f 31, f 32, f 33, f 34, f 35, f 36, f 37, f 38, f 39, f 40, f 41, f 42, f 43, f 44, f 45, f 46, f 47, f 48, f 49, f 50, f 51, f 52, f 53, f 54, f 55, f 56], defers := [] } _
  rw [h5, h6]
  clear h5 h6
  conv => arg 4; whnf
  refine wpIn_mono (Q := Exit.then (fun a w => Q .normal a w) (fun _ _ _ => False)) ?_ (fun e a w h => by
    cases e
    case normal => exact h
    all_goals exact (h : False).elim)
  refine wpIn_region_held_round (S := ItS b5 px b6 bn bb t q (u, ⟨vk, vb, vn, vs, vu⟩)) (by kernel_rfl) (fun ⟨_, _, h⟩ => h) (by kernel_rfl) hcur ?_
  intro hHeld
  refine wpAnyH_take (i := 0) (oi := { dst := some 16, op := Op.load 156 (Operand.tmp 5), type := 156, pos := "index.go:105", after := #[], guard := none }) (v := ?_) rfl (by kernel_rfl) (by kernel_rfl) (by kernel_rfl) (fun _ _ _ h => h) (Or.inl ⟨by rfl, ?_⟩) (by assumption) ?_
  rotate_left 1
  · (intro w hSw; (try dsimp only at hSw); go_simp; try with_reducible rfl)
  (try simp only [Act.put, List.setIfInBounds_toArray, List.set_cons_zero, List.set_cons_succ])
  refine wpAnyH_take (i := 1) (oi := { dst := some 17, op := Op.nilCheck (Operand.tmp 16), type := 0, pos := "index.go:105", after := #[{ on := 0, ground := Ground.data }], guard := none }) (v := ?_) rfl (by kernel_rfl) (by kernel_rfl) (by kernel_rfl) (fun _ _ _ h => h) (Or.inl ⟨by rfl, ?_⟩) (by assumption) ?_
  rotate_left 1
  · (intro w hSw; (try dsimp only at hSw); go_simp; try with_reducible rfl)
  (try simp only [Act.put, List.setIfInBounds_toArray, List.set_cons_zero, List.set_cons_succ])
  refine wpAnyH_take (i := 2) (oi := { dst := some 18, op := Op.fieldAddr 168 (Operand.tmp 17) 1, type := 0, pos := "index.go:105", after := #[{ on := 1, ground := Ground.data }], guard := none }) (v := ?_) rfl (by kernel_rfl) (by kernel_rfl) (by kernel_rfl) (fun _ _ _ h => h) (Or.inl ⟨by rfl, ?_⟩) (by assumption) ?_
  rotate_left 1
  · (intro w hSw; (try dsimp only at hSw); go_simp; try with_reducible rfl)
  (try simp only [Act.put, List.setIfInBounds_toArray, List.set_cons_zero, List.set_cons_succ])
  refine wpAnyH_take (i := 3) (oi := { dst := some 19, op := Op.load 165 (Operand.tmp 18), type := 165, pos := "index.go:105", after := #[{ on := 2, ground := Ground.data }], guard := none }) (v := ?_) rfl (by kernel_rfl) (by kernel_rfl) (by kernel_rfl) (fun _ _ _ h => h) (Or.inl ⟨by rfl, ?_⟩) (by assumption) ?_
  rotate_left 1
  · (intro w hSw; (try dsimp only at hSw); go_simp; try with_reducible rfl)
  (try simp only [Act.put, List.setIfInBounds_toArray, List.set_cons_zero, List.set_cons_succ])
  refine wpAnyH_take (i := 4) (oi := { dst := some 20, op := Op.fieldAddr 59 (Operand.tmp 6) 0, type := 0, pos := "index.go:105", after := #[], guard := none }) (v := ?_) rfl (by kernel_rfl) (by kernel_rfl) (by kernel_rfl) (fun _ _ _ h => h) (Or.inl ⟨by rfl, ?_⟩) (by assumption) ?_
  rotate_left 1
  · (intro w hSw; (try dsimp only at hSw); go_simp; try with_reducible rfl)
  (try simp only [Act.put, List.setIfInBounds_toArray, List.set_cons_zero, List.set_cons_succ])
  refine wpAnyH_take (i := 5) (oi := { dst := some 21, op := Op.load 33 (Operand.tmp 20), type := 33, pos := "index.go:105", after := #[{ on := 4, ground := Ground.data }], guard := none }) (v := ?_) rfl (by kernel_rfl) (by kernel_rfl) (by kernel_rfl) (fun _ _ _ h => h) (Or.inl ⟨by rfl, ?_⟩) (by assumption) ?_
  rotate_left 1
  · (intro w hSw; (try dsimp only at hSw); go_simp; try with_reducible rfl)
  (try simp only [Act.put, List.setIfInBounds_toArray, List.set_cons_zero, List.set_cons_succ])
  refine wpAnyH_take (i := 6) (oi := { dst := some 22, op := Op.load 156 (Operand.tmp 5), type := 156, pos := "index.go:105", after := #[], guard := none }) (v := ?_) rfl (by kernel_rfl) (by kernel_rfl) (by kernel_rfl) (fun _ _ _ h => h) (Or.inl ⟨by rfl, ?_⟩) (by assumption) ?_
  rotate_left 1
  · (intro w hSw; (try dsimp only at hSw); go_simp; try with_reducible rfl)
  (try simp only [Act.put, List.setIfInBounds_toArray, List.set_cons_zero, List.set_cons_succ])
  refine wpAnyH_take (i := 7) (oi := { dst := some 23, op := Op.nilCheck (Operand.tmp 22), type := 0, pos := "index.go:105", after := #[{ on := 6, ground := Ground.data }], guard := none }) (v := ?_) rfl (by kernel_rfl) (by kernel_rfl) (by kernel_rfl) (fun _ _ _ h => h) (Or.inl ⟨by rfl, ?_⟩) (by assumption) ?_
  rotate_left 1
  · (intro w hSw; (try dsimp only at hSw); go_simp; try with_reducible rfl)
  (try simp only [Act.put, List.setIfInBounds_toArray, List.set_cons_zero, List.set_cons_succ])
  refine wpAnyH_take (i := 8) (oi := { dst := some 24, op := Op.fieldAddr 168 (Operand.tmp 23) 1, type := 0, pos := "index.go:105", after := #[{ on := 7, ground := Ground.data }], guard := none }) (v := ?_) rfl (by kernel_rfl) (by kernel_rfl) (by kernel_rfl) (fun _ _ _ h => h) (Or.inl ⟨by rfl, ?_⟩) (by assumption) ?_
  rotate_left 1
  · (intro w hSw; (try dsimp only at hSw); go_simp; try with_reducible rfl)
  (try simp only [Act.put, List.setIfInBounds_toArray, List.set_cons_zero, List.set_cons_succ])
  refine wpAnyH_take (i := 9) (oi := { dst := some 25, op := Op.load 165 (Operand.tmp 24), type := 165, pos := "index.go:105", after := #[{ on := 8, ground := Ground.data }], guard := none }) (v := ?_) rfl (by kernel_rfl) (by kernel_rfl) (by kernel_rfl) (fun _ _ _ h => h) (Or.inl ⟨by rfl, ?_⟩) (by assumption) ?_
  rotate_left 1
  · (intro w hSw; (try dsimp only at hSw); go_simp; try with_reducible rfl)
  (try simp only [Act.put, List.setIfInBounds_toArray, List.set_cons_zero, List.set_cons_succ])
  refine wpAnyH_take (i := 10) (oi := { dst := some 26, op := Op.fieldAddr 59 (Operand.tmp 6) 0, type := 0, pos := "index.go:105", after := #[], guard := none }) (v := ?_) rfl (by kernel_rfl) (by kernel_rfl) (by kernel_rfl) (fun _ _ _ h => h) (Or.inl ⟨by rfl, ?_⟩) (by assumption) ?_
  rotate_left 1
  · (intro w hSw; (try dsimp only at hSw); go_simp; try with_reducible rfl)
  (try simp only [Act.put, List.setIfInBounds_toArray, List.set_cons_zero, List.set_cons_succ])
  refine wpAnyH_take (i := 11) (oi := { dst := some 27, op := Op.load 33 (Operand.tmp 26), type := 33, pos := "index.go:105", after := #[{ on := 10, ground := Ground.data }], guard := none }) (v := ?_) rfl (by kernel_rfl) (by kernel_rfl) (by kernel_rfl) (fun _ _ _ h => h) (Or.inl ⟨by rfl, ?_⟩) (by assumption) ?_
  rotate_left 1
  · (intro w hSw; (try dsimp only at hSw); go_simp; try with_reducible rfl)
  (try simp only [Act.put, List.setIfInBounds_toArray, List.set_cons_zero, List.set_cons_succ])
  refine wpAnyH_take (i := 13) (oi := { dst := some 29, op := Op.fieldAddr 59 (Operand.tmp 6) 2, type := 0, pos := "index.go:105", after := #[], guard := none }) (v := ?_) rfl (by kernel_rfl) (by kernel_rfl) (by kernel_rfl) (fun _ _ _ h => h) (Or.inl ⟨by rfl, ?_⟩) (by assumption) ?_
  rotate_left 1
  · (intro w hSw; (try dsimp only at hSw); go_simp; try with_reducible rfl)
  (try simp only [Act.put, List.setIfInBounds_toArray, List.set_cons_zero, List.set_cons_succ])
  refine wpAnyH_take (i := 14) (oi := { dst := some 30, op := Op.load 57 (Operand.tmp 29), type := 57, pos := "index.go:105", after := #[{ on := 13, ground := Ground.data }], guard := none }) (v := ?_) rfl (by kernel_rfl) (by kernel_rfl) (by kernel_rfl) (fun _ _ _ h => h) (Or.inl ⟨by rfl, ?_⟩) (by assumption) ?_
  rotate_left 1
  · (intro w hSw; (try dsimp only at hSw); go_simp; try with_reducible rfl)
  (try simp only [Act.put, List.setIfInBounds_toArray, List.set_cons_zero, List.set_cons_succ])
  have HC1 : Hid (ItS b5 px b6 bn bb t q (u, ⟨vk, vb, vn, vs, vu⟩) (W.alloc (.cells #[.int .u8 vk, .bool vb, .int .i64 vn, .string vs, .int .u64 vu] 57)).drew) := Lib.hid (HSK.out _ _ (((Fr.refl (fun j => j = bn ∨ R j) W).alloc (.cells #[.int .u8 vk, .bool vb, .int .i64 vn, .string vs, .int .u64 vu] 57)).drew) hcur0)
  have HF1 : Hid (Fr N0 W (W.alloc (.cells #[.int .u8 vk, .bool vb, .int .i64 vn, .string vs, .int .u64 vu] 57)).drew) := Lib.hid (((Fr.refl N0 W).alloc (.cells #[.int .u8 vk, .bool vb, .int .i64 vn, .string vs, .int .u64 vu] 57)).drew)
  clear hcur0
  refine wpAnyH_ready (rs := [12, 15]) (by kernel_rfl) (by simp) ?_
  refine AllReadyH.cons (o := { dst := some 28, op := Op.lookup 165 (Operand.tmp 25) (Operand.tmp 27) false, type := 91, pos := "index.go:105", after := #[{ on := 9, ground := Ground.data }, { on := 11, ground := Ground.data }], guard := none }) rfl (fun K' hK' => ?_) ?_
  · have hlk0 := HLK.out _ HF0.out
    go_simp
    refine hK'.out _ _ hcur (fun hHeld => ?_)
    clear hK' K' hlk0 hcur
    (try simp only [Act.put, List.setIfInBounds_toArray, List.set_cons_zero, List.set_cons_succ])
    refine wpAnyH_ready (rs := [15]) (by kernel_rfl) (by simp) ?_
    refine AllReadyH.cons (o := { dst := some 31, op := Op.buildSlice 91 1 #[(0, Operand.tmp 30)], type := 91, pos := "index.go:105", after := #[{ on := 14, ground := Ground.data }], guard := none }) rfl (fun K' hK' => ?_) ?_
    · go_simp
      refine hK'.out _ _ HC1.out (fun hHeld => ?_)
      clear hK' K'
      (try simp only [Act.put, List.setIfInBounds_toArray, List.set_cons_zero, List.set_cons_succ])
      refine wpAnyH_ready (rs := [16]) (by kernel_rfl) (by simp) ?_
      refine AllReadyH.cons (o := { dst := some 32, op := Op.call { callee := Callee.builtin Builtin.append, args := #[Operand.tmp 28, Operand.tmp 31], argTypes := #[91, 91] }, type := 91, pos := "index.go:105", after := #[{ on := 12, ground := Ground.data }, { on := 15, ground := Ground.data }], guard := none }) rfl (fun K' hK' => ?_) ?_
      · refine step_append_lies _ rfl _ _ 91 rfl lo 57 i0 (.agg #[.int .u8 0, .bool false, .int .i64 0, .string ⟨#[]⟩, .int .u64 0]) 5 40 Tryz.underlying91 hi hz0 hz1 hz2 rfl (by decide) v0 n row rfl (HROW.out.fr0 HF1.out) ⟨W.heap.size, 0, none⟩ 1 1 [.int .u8 vk, .bool vb, .int .i64 vn, .string vs, .int .u64 vu] rfl rfl (World.news_of_block (cs := #[.int .u8 vk, .bool vb, .int .i64 vn, .string vs, .int .u64 vu]) (t := 57) (fr := (0, 0)) (show (W.alloc _).heap[W.heap.size]? = _ from World.alloc_heap_new W _)) (by simp [Value.oneCell']) (by omega) (by unfold maxLen; omega) (by omega) (by have := HF1.out.size; omega) _ rfl ?_
        intro g1 cap1 w1 hown1 hgrow1 hfresh1 hlt1
        have hgr : Fr (fun j => v0.ownBlock = some j) _ w1 := (Fr.refl _ _).grown hgrow1 fun j e => .inl e
        have hcur1 := HSK.out _ _ (hgr.mono fun j e => .inl (.inr (HOWN.out j e).1)) HC1.out
        have hmm := (HM.out.fr HF1.out id).fr hgr (fun h => (HOWN.out _ h).2 rfl)
        obtain ⟨w2, hrun2, hm2, hf2⟩ := hmm.store lawU Tryz.underlying165 (by unfold maxLen; omega) HKU.out (.slice (some ⟨g1, 0, none⟩) (n + 1) cap1)
        have hcur2 := HSK.out _ _ (hf2.mono fun j e => .inl (.inl e)) hcur1
        have HX := Lib.hid (HAPP.out _ w1 w2 (.slice (some ⟨g1, 0, none⟩) (n + 1) cap1) g1 cap1 HF1.out rfl hown1 hgrow1 hfresh1 hlt1 hm2 hf2)
        have HM2 := Lib.hid hm2
        refine hK'.out _ _ hcur1 (fun hHeld => ?_)
        clear hK' K' hcur1 hm2 hf2 hmm hgr hown1 hgrow1 hfresh1 hlt1
        (try simp only [Act.put, List.setIfInBounds_toArray, List.set_cons_zero, List.set_cons_succ])
        refine wpAnyH_ready (rs := [17]) (by kernel_rfl) (by simp) ?_
        refine AllReadyH.cons (o := { dst := none, op := Op.mapUpdate 165 (Operand.tmp 19) (Operand.tmp 21) (Operand.tmp 32), type := 0, pos := "index.go:105", after := #[{ on := 3, ground := Ground.data }, { on := 5, ground := Ground.data }, { on := 16, ground := Ground.data }, { on := 16, ground := Ground.chain }, { on := 0, ground := Ground.phase }, { on := 1, ground := Ground.phase }, { on := 2, ground := Ground.phase }, { on := 3, ground := Ground.phase }, { on := 4, ground := Ground.phase }, { on := 5, ground := Ground.phase }, { on := 6, ground := Ground.phase }, { on := 7, ground := Ground.phase }, { on := 8, ground := Ground.phase }, { on := 9, ground := Ground.phase }, { on := 10, ground := Ground.phase }, { on := 11, ground := Ground.phase }, { on := 12, ground := Ground.phase }, { on := 13, ground := Ground.phase }, { on := 14, ground := Ground.phase }, { on := 15, ground := Ground.phase }, { on := 16, ground := Ground.phase }], guard := none }) rfl (fun K' hK' => ?_) ?_
        · go_simp
          refine hK'.out _ _ hcur2 (fun hHeld => ?_)
          clear hK' K'
          (try simp only [Act.put, List.setIfInBounds_toArray, List.set_cons_zero, List.set_cons_succ])
          refine wpAnyH_done (by kernel_rfl) ?_ _
          obtain ⟨g2, hp, hg0, hfr⟩ := HX.out
          show Q .normal _ _
          refine cut_useQ (n := 57) (Q := Q) (e := .normal) _ rfl ?_
          exact HK.out _ w2 (.slice (some ⟨g1, 0, none⟩) (n + 1) cap1) g1 g2 (by rw [H5.out]; rfl) (by rw [H6.out]; rfl) hcur2 HM2.out hp hg0 hfr
        · exact AllReadyH.nil
      · exact AllReadyH.nil
    · exact AllReadyH.nil
  refine AllReadyH.cons (o := { dst := some 31, op := Op.buildSlice 91 1 #[(0, Operand.tmp 30)], type := 91, pos := "index.go:105", after := #[{ on := 14, ground := Ground.data }], guard := none }) rfl (fun K' hK' => ?_) ?_
  · go_simp
    refine hK'.out _ _ HC1.out (fun hHeld => ?_)
    clear hK' K' hcur
    (try simp only [Act.put, List.setIfInBounds_toArray, List.set_cons_zero, List.set_cons_succ])
    refine wpAnyH_ready (rs := [12]) (by kernel_rfl) (by simp) ?_
    refine AllReadyH.cons (o := { dst := some 28, op := Op.lookup 165 (Operand.tmp 25) (Operand.tmp 27) false, type := 91, pos := "index.go:105", after := #[{ on := 9, ground := Ground.data }, { on := 11, ground := Ground.data }], guard := none }) rfl (fun K' hK' => ?_) ?_
    · have hlk0 := HLK.out _ HF1.out
      go_simp
      refine hK'.out _ _ HC1.out (fun hHeld => ?_)
      clear hK' K' hlk0
      (try simp only [Act.put, List.setIfInBounds_toArray, List.set_cons_zero, List.set_cons_succ])
      refine wpAnyH_ready (rs := [16]) (by kernel_rfl) (by simp) ?_
      refine AllReadyH.cons (o := { dst := some 32, op := Op.call { callee := Callee.builtin Builtin.append, args := #[Operand.tmp 28, Operand.tmp 31], argTypes := #[91, 91] }, type := 91, pos := "index.go:105", after := #[{ on := 12, ground := Ground.data }, { on := 15, ground := Ground.data }], guard := none }) rfl (fun K' hK' => ?_) ?_
      · refine step_append_lies _ rfl _ _ 91 rfl lo 57 i0 (.agg #[.int .u8 0, .bool false, .int .i64 0, .string ⟨#[]⟩, .int .u64 0]) 5 40 Tryz.underlying91 hi hz0 hz1 hz2 rfl (by decide) v0 n row rfl (HROW.out.fr0 HF1.out) ⟨W.heap.size, 0, none⟩ 1 1 [.int .u8 vk, .bool vb, .int .i64 vn, .string vs, .int .u64 vu] rfl rfl (World.news_of_block (cs := #[.int .u8 vk, .bool vb, .int .i64 vn, .string vs, .int .u64 vu]) (t := 57) (fr := (0, 0)) (show (W.alloc _).heap[W.heap.size]? = _ from World.alloc_heap_new W _)) (by simp [Value.oneCell']) (by omega) (by unfold maxLen; omega) (by omega) (by have := HF1.out.size; omega) _ rfl ?_
        intro g1 cap1 w1 hown1 hgrow1 hfresh1 hlt1
        have hgr : Fr (fun j => v0.ownBlock = some j) _ w1 := (Fr.refl _ _).grown hgrow1 fun j e => .inl e
        have hcur1 := HSK.out _ _ (hgr.mono fun j e => .inl (.inr (HOWN.out j e).1)) HC1.out
        have hmm := (HM.out.fr HF1.out id).fr hgr (fun h => (HOWN.out _ h).2 rfl)
        obtain ⟨w2, hrun2, hm2, hf2⟩ := hmm.store lawU Tryz.underlying165 (by unfold maxLen; omega) HKU.out (.slice (some ⟨g1, 0, none⟩) (n + 1) cap1)
        have hcur2 := HSK.out _ _ (hf2.mono fun j e => .inl (.inl e)) hcur1
        have HX := Lib.hid (HAPP.out _ w1 w2 (.slice (some ⟨g1, 0, none⟩) (n + 1) cap1) g1 cap1 HF1.out rfl hown1 hgrow1 hfresh1 hlt1 hm2 hf2)
        have HM2 := Lib.hid hm2
        refine hK'.out _ _ hcur1 (fun hHeld => ?_)
        clear hK' K' hcur1 hm2 hf2 hmm hgr hown1 hgrow1 hfresh1 hlt1
        (try simp only [Act.put, List.setIfInBounds_toArray, List.set_cons_zero, List.set_cons_succ])
        refine wpAnyH_ready (rs := [17]) (by kernel_rfl) (by simp) ?_
        refine AllReadyH.cons (o := { dst := none, op := Op.mapUpdate 165 (Operand.tmp 19) (Operand.tmp 21) (Operand.tmp 32), type := 0, pos := "index.go:105", after := #[{ on := 3, ground := Ground.data }, { on := 5, ground := Ground.data }, { on := 16, ground := Ground.data }, { on := 16, ground := Ground.chain }, { on := 0, ground := Ground.phase }, { on := 1, ground := Ground.phase }, { on := 2, ground := Ground.phase }, { on := 3, ground := Ground.phase }, { on := 4, ground := Ground.phase }, { on := 5, ground := Ground.phase }, { on := 6, ground := Ground.phase }, { on := 7, ground := Ground.phase }, { on := 8, ground := Ground.phase }, { on := 9, ground := Ground.phase }, { on := 10, ground := Ground.phase }, { on := 11, ground := Ground.phase }, { on := 12, ground := Ground.phase }, { on := 13, ground := Ground.phase }, { on := 14, ground := Ground.phase }, { on := 15, ground := Ground.phase }, { on := 16, ground := Ground.phase }], guard := none }) rfl (fun K' hK' => ?_) ?_
        · go_simp
          refine hK'.out _ _ hcur2 (fun hHeld => ?_)
          clear hK' K'
          (try simp only [Act.put, List.setIfInBounds_toArray, List.set_cons_zero, List.set_cons_succ])
          refine wpAnyH_done (by kernel_rfl) ?_ _
          obtain ⟨g2, hp, hg0, hfr⟩ := HX.out
          show Q .normal _ _
          refine cut_useQ (n := 57) (Q := Q) (e := .normal) _ rfl ?_
          exact HK.out _ w2 (.slice (some ⟨g1, 0, none⟩) (n + 1) cap1) g1 g2 (by rw [H5.out]; rfl) (by rw [H6.out]; rfl) hcur2 HM2.out hp hg0 hfr
        · exact AllReadyH.nil
      · exact AllReadyH.nil
    · exact AllReadyH.nil
  · exact AllReadyH.nil
end Go.Proofs.YtefepfiijoafbaaGreat
namespace Go.Proofs.YtefepfiijoafbaaGreat
open Go.RowKit Go.Shelf Go.Maps
attribute [local go_sem] Oper.semAt_some
attribute [local irreducible] wpQuiet
set_option linter.unusedVariables false
set_option linter.unusedSimpArgs false

theorem zeroU64sR : ∀ w, (zeroValue 35).run Tryz.prog w = .ok (.slice none 0 0) w := fun w => by kernel_rfl
def itThen : Code → Code
  | .cond _ a _ => a
  | c => c
noncomputable def itC6 : Code := itThen (itSnd (itSnd itLoop))

set_option maxRecDepth 100000 in
set_option maxHeartbeats 8000000 in
theorem itR6 (l : Nat) {Q : Exit → Act → World → Prop} (W : World) (lo b5 px b6 bn bb N : Nat) (t : Int) (q : ByteArray) (x : Int × Val) (H : Int → List Int) (F : Lit → Option Value) (g : Int → Nat) (R : Nat → Prop) (f : Nat → Value)
    (hS : ItS b5 px b6 bn bb t q x W) (hm : MapF Tryz.prog 33 W bb N F) (hr : OwnR enc4 1 33 W lo bb H F g R) (hlo : lo ≤ W.heap.size) (hN : N ≤ 10000000000) (hl : (H (x.2.u)).length ≤ 10000000000) (hwf : (Lit.int .u64 (x.2.u)).wf = true)
    (h5R : ¬ R b5 ∧ b5 ≠ bb) (hxR : ¬ R px ∧ px ≠ bb) (h6R : ¬ R b6 ∧ b6 ≠ bb) (hbl : lo ≤ bb)
    (h5 : f 5 = .pointer (some ⟨b5, 0, none⟩)) (h6 : f 6 = .pointer (some ⟨b6, 0, none⟩))
    (hK : ∀ f' W' v' g' g2, f' 5 = f 5 → f' 6 = f 6 → ItS b5 px b6 bn bb t q x W' → MapF Tryz.prog 33 W' bb (N + 1) (putF F (litU (x.2.u)) (some v')) → OwnR enc4 1 33 W' lo bb (updV H (x.2.u) (H (x.2.u) ++ [x.1])) (putF F (litU (x.2.u)) (some v')) g2 (fun j => R j ∨ j = g') →
      (R g' ∨ W.heap.size ≤ g') → Fr (fun j => j = bb ∨ R j) W W' → Q .normal (frA 57 f') W') :
    (itC6).wpIn (Fence.wide.inRound l) 7 Tryz.prog Q (frA 57 f) W := by
  obtain ⟨v0, hv0, hrow0, hown0⟩ := hr.at (x.2.u)
  have hku := keyOf_int_mk (P := Tryz.prog) Tryz.underlying33 hwf
  have hlk : ∀ w', Fr N0 W w' → (Instr.lookup 166 (.map (some bb)) (.int .u64 (x.2.u)) false).run Tryz.prog w' = .ok v0 w' := fun w' hf => by
    have := ((hm.fr hf id).look lawU Tryz.underlying166 (zeroU64sR _) hku).1
    rw [← hv0]; exact this
  obtain ⟨i0, hi, hz0, hz1, hz2⟩ := info_parts ins4_info
  have hbn := hm.lt
  have hown : ∀ j, v0.ownBlock = some j → R j ∧ lo ≤ j := fun j hj => by
    rcases hown0 with h | ⟨h0, h⟩
    · rw [h] at hj; cases hj
    · rw [h] at hj; obtain rfl := Option.some.inj hj; exact ⟨hr.inR _ h0, (hr.lt _ (hr.inR _ h0)).1⟩
  have happ : ∀ (w1 w2 w3 : World) (v' : Value) (g' cap : Nat), Fr N0 W w1 → v' = .slice (some ⟨g', 0, none⟩) ((H (x.2.u)).length + 1) cap → w2.ownsRow lo 33 1 v' ((H (x.2.u)).length + 1) ((H (x.2.u)).flatMap enc4 ++ enc4 (x.1)) → w1.grownBy w2 v0.ownBlock → (v0.ownBlock = some g' ∨ g' = w1.heap.size) → g' < w2.heap.size → MapF Tryz.prog 33 w3 bb (N + 1) (putF F (litU (x.2.u)) (some v')) → Fr (fun j => j = bb) w2 w3 →
      ∃ g2, OwnR enc4 1 33 w3 lo bb (updV H (x.2.u) (H (x.2.u) ++ [x.1])) (putF F (litU (x.2.u)) (some v')) g2 (fun j => R j ∨ j = g') ∧ (R g' ∨ W.heap.size ≤ g') ∧ Fr (fun j => j = bb ∨ R j) W w3 := fun w1 w2 w3 v' g' cap hf he hrow hg hfresh hlt hm3 hf3 => by
    have hz := hf.size
    have hfr2 : Fr (fun j => v0.ownBlock = some j) w1 w2 := (Fr.refl _ _).grown hg fun j e => .inl e
    have hg0 : R g' ∨ W.heap.size ≤ g' := by
      rcases hfresh with h | h
      · exact .inl (hown g' h).1
      · exact .inr (by omega)
    have hgb : g' ≠ bb := fun e => by
      rcases hg0 with h | h
      · exact (hr.lt _ h).2.2 e
      · omega
    have hglo : lo ≤ g' := by
      rcases hg0 with h | h
      · exact (hr.lt _ h).1
      · omega
    obtain ⟨g2, hp⟩ := hr.push (x.2.u) (x.1) (v0 := v0) (v' := v') (g' := g') (n := (H (x.2.u)).length + 1) hown0 hf (by simpa using hrow) (by simp) hfr2 (by rw [he]; rfl) (hfresh.imp id (fun h => by omega)) hglo hlt hgb hf3
    refine ⟨g2, hp, hg0, ?_⟩
    refine (((hf.mono (T' := fun j => j = bb ∨ R j) fun _ h => h.elim).trans hfr2 fun j hj => .inl (.inr (hown j hj).1)).trans hf3 fun j hj => .inl (.inl hj))
  have hSk : ∀ (A B : World), Fr (fun j => j = bb ∨ R j) A B → ItS b5 px b6 bn bb t q x A → ItS b5 px b6 bn bb t q x B := fun A B hf h =>
    itS_fr hf (fun h => h.elim h5R.2 h5R.1) (fun h => h.elim hxR.2 hxR.1) (fun h => h.elim h6R.2 h6R.1) h
  have hown2 : ∀ j, v0.ownBlock = some j → R j ∧ j ≠ bb := fun j hj => ⟨(hown j hj).1, (hr.lt _ (hown j hj).1).2.2⟩
  obtain ⟨n, hn⟩ : ∃ n, (H (x.2.u)).length = n := ⟨_, rfl⟩
  obtain ⟨row, hrw⟩ : ∃ r, (H (x.2.u)).flatMap enc4 = r := ⟨_, rfl⟩
  rw [hn, hrw] at hrow0 happ
  rw [hn] at hl
  have HK := Lib.hid hK; have HM := Lib.hid hm; have HKU := Lib.hid hku; have HLK := Lib.hid hlk; have HROW := Lib.hid hrow0; have HAPP := Lib.hid happ; have HSK := Lib.hid hSk; have HOWN := Lib.hid hown2; have H5 := Lib.hid h5; have H6 := Lib.hid h6
  have hcur : ItS b5 px b6 bn bb t q x W.drew := hSk _ _ (Fr.refl _ _).drew hS
  have hcur0 := hS
  have HF0 : Hid (Fr N0 W W.drew) := Lib.hid (Fr.refl _ _).drew
  clear hK hm hku hlk hrow0 happ hSk hown2 hown hr hown0 hS hv0 hrw hn h5R hxR h6R hwf
  obtain ⟨u, ⟨vk, vb, vn, vs, vu⟩⟩ := x
  simp only at *
  show Code.wpIn _ _ _ _ _ { tmps := #[f 0, f 1, f 2, f 3, f 4, f 5, f 6, f 7, f 8, f 9, f 10, f 11, f 12, f 13, f 14, f 15, f 16, f 17, f 18, f 19, f 20, f 21, f 22, f 23, f 24, f 25, f 26, f 27, f 28, f 29, f 30, f 31, f 32, f 33, f 34, f 35, f 36, f 37, f 38, f 39, f 40, f 41, f 42, f 43, f 44, f 45, f 46, f 47, f 48, f 49, f 50, f 51, f 52, f 53, f 54, f 55, f 56], defers := [] } _
  rw [h5, h6]
  clear h5 h6
  conv => arg 4; whnf
  refine wpIn_mono (Q := Exit.then (fun a w => Q .normal a w) (fun _ _ _ => False)) ?_ (fun e a w h => by
    cases e
    case normal => exact h
    all_goals exact (h : False).elim)
  refine wpIn_region_held_round (S := ItS b5 px b6 bn bb t q (u, ⟨vk, vb, vn, vs, vu⟩)) (by kernel_rfl) (fun ⟨_, _, h⟩ => h) (by kernel_rfl) hcur ?_
  intro hHeld
  refine wpAnyH_take (i := 0) (oi := { dst := some 37, op := Op.load 156 (Operand.tmp 5), type := 156, pos := "index.go:107", after := #[], guard := none }) (v := ?_) rfl (by kernel_rfl) (by kernel_rfl) (by kernel_rfl) (fun _ _ _ h => h) (Or.inl ⟨by rfl, ?_⟩) (by assumption) ?_
  rotate_left 1
  · (intro w hSw; (try dsimp only at hSw); go_simp; try with_reducible rfl)
  (try simp only [Act.put, List.setIfInBounds_toArray, List.set_cons_zero, List.set_cons_succ])
  refine wpAnyH_take (i := 1) (oi := { dst := some 38, op := Op.nilCheck (Operand.tmp 37), type := 0, pos := "index.go:107", after := #[{ on := 0, ground := Ground.data }], guard := none }) (v := ?_) rfl (by kernel_rfl) (by kernel_rfl) (by kernel_rfl) (fun _ _ _ h => h) (Or.inl ⟨by rfl, ?_⟩) (by assumption) ?_
  rotate_left 1
  · (intro w hSw; (try dsimp only at hSw); go_simp; try with_reducible rfl)
  (try simp only [Act.put, List.setIfInBounds_toArray, List.set_cons_zero, List.set_cons_succ])
  refine wpAnyH_take (i := 2) (oi := { dst := some 39, op := Op.fieldAddr 168 (Operand.tmp 38) 2, type := 0, pos := "index.go:107", after := #[{ on := 1, ground := Ground.data }], guard := none }) (v := ?_) rfl (by kernel_rfl) (by kernel_rfl) (by kernel_rfl) (fun _ _ _ h => h) (Or.inl ⟨by rfl, ?_⟩) (by assumption) ?_
  rotate_left 1
  · (intro w hSw; (try dsimp only at hSw); go_simp; try with_reducible rfl)
  (try simp only [Act.put, List.setIfInBounds_toArray, List.set_cons_zero, List.set_cons_succ])
  refine wpAnyH_take (i := 3) (oi := { dst := some 40, op := Op.load 166 (Operand.tmp 39), type := 166, pos := "index.go:107", after := #[{ on := 2, ground := Ground.data }], guard := none }) (v := ?_) rfl (by kernel_rfl) (by kernel_rfl) (by kernel_rfl) (fun _ _ _ h => h) (Or.inl ⟨by rfl, ?_⟩) (by assumption) ?_
  rotate_left 1
  · (intro w hSw; (try dsimp only at hSw); go_simp; try with_reducible rfl)
  (try simp only [Act.put, List.setIfInBounds_toArray, List.set_cons_zero, List.set_cons_succ])
  refine wpAnyH_take (i := 4) (oi := { dst := some 41, op := Op.fieldAddr 59 (Operand.tmp 6) 2, type := 0, pos := "index.go:107", after := #[], guard := none }) (v := ?_) rfl (by kernel_rfl) (by kernel_rfl) (by kernel_rfl) (fun _ _ _ h => h) (Or.inl ⟨by rfl, ?_⟩) (by assumption) ?_
  rotate_left 1
  · (intro w hSw; (try dsimp only at hSw); go_simp; try with_reducible rfl)
  (try simp only [Act.put, List.setIfInBounds_toArray, List.set_cons_zero, List.set_cons_succ])
  refine wpAnyH_take (i := 5) (oi := { dst := some 42, op := Op.fieldAddr 57 (Operand.tmp 41) 4, type := 0, pos := "index.go:107", after := #[{ on := 4, ground := Ground.data }], guard := none }) (v := ?_) rfl (by kernel_rfl) (by kernel_rfl) (by kernel_rfl) (fun _ _ _ h => h) (Or.inl ⟨by rfl, ?_⟩) (by assumption) ?_
  rotate_left 1
  · (intro w hSw; (try dsimp only at hSw); go_simp; try with_reducible rfl)
  (try simp only [Act.put, List.setIfInBounds_toArray, List.set_cons_zero, List.set_cons_succ])
  refine wpAnyH_take (i := 6) (oi := { dst := some 43, op := Op.load 33 (Operand.tmp 42), type := 33, pos := "index.go:107", after := #[{ on := 5, ground := Ground.data }], guard := none }) (v := ?_) rfl (by kernel_rfl) (by kernel_rfl) (by kernel_rfl) (fun _ _ _ h => h) (Or.inl ⟨by rfl, ?_⟩) (by assumption) ?_
  rotate_left 1
  · (intro w hSw; (try dsimp only at hSw); go_simp; try with_reducible rfl)
  (try simp only [Act.put, List.setIfInBounds_toArray, List.set_cons_zero, List.set_cons_succ])
  refine wpAnyH_take (i := 7) (oi := { dst := some 44, op := Op.load 156 (Operand.tmp 5), type := 156, pos := "index.go:107", after := #[], guard := none }) (v := ?_) rfl (by kernel_rfl) (by kernel_rfl) (by kernel_rfl) (fun _ _ _ h => h) (Or.inl ⟨by rfl, ?_⟩) (by assumption) ?_
  rotate_left 1
  · (intro w hSw; (try dsimp only at hSw); go_simp; try with_reducible rfl)
  (try simp only [Act.put, List.setIfInBounds_toArray, List.set_cons_zero, List.set_cons_succ])
  refine wpAnyH_take (i := 8) (oi := { dst := some 45, op := Op.nilCheck (Operand.tmp 44), type := 0, pos := "index.go:107", after := #[{ on := 7, ground := Ground.data }], guard := none }) (v := ?_) rfl (by kernel_rfl) (by kernel_rfl) (by kernel_rfl) (fun _ _ _ h => h) (Or.inl ⟨by rfl, ?_⟩) (by assumption) ?_
  rotate_left 1
  · (intro w hSw; (try dsimp only at hSw); go_simp; try with_reducible rfl)
  (try simp only [Act.put, List.setIfInBounds_toArray, List.set_cons_zero, List.set_cons_succ])
  refine wpAnyH_take (i := 9) (oi := { dst := some 46, op := Op.fieldAddr 168 (Operand.tmp 45) 2, type := 0, pos := "index.go:107", after := #[{ on := 8, ground := Ground.data }], guard := none }) (v := ?_) rfl (by kernel_rfl) (by kernel_rfl) (by kernel_rfl) (fun _ _ _ h => h) (Or.inl ⟨by rfl, ?_⟩) (by assumption) ?_
  rotate_left 1
  · (intro w hSw; (try dsimp only at hSw); go_simp; try with_reducible rfl)
  (try simp only [Act.put, List.setIfInBounds_toArray, List.set_cons_zero, List.set_cons_succ])
  refine wpAnyH_take (i := 10) (oi := { dst := some 47, op := Op.load 166 (Operand.tmp 46), type := 166, pos := "index.go:107", after := #[{ on := 9, ground := Ground.data }], guard := none }) (v := ?_) rfl (by kernel_rfl) (by kernel_rfl) (by kernel_rfl) (fun _ _ _ h => h) (Or.inl ⟨by rfl, ?_⟩) (by assumption) ?_
  rotate_left 1
  · (intro w hSw; (try dsimp only at hSw); go_simp; try with_reducible rfl)
  (try simp only [Act.put, List.setIfInBounds_toArray, List.set_cons_zero, List.set_cons_succ])
  refine wpAnyH_take (i := 11) (oi := { dst := some 48, op := Op.fieldAddr 59 (Operand.tmp 6) 2, type := 0, pos := "index.go:107", after := #[], guard := none }) (v := ?_) rfl (by kernel_rfl) (by kernel_rfl) (by kernel_rfl) (fun _ _ _ h => h) (Or.inl ⟨by rfl, ?_⟩) (by assumption) ?_
  rotate_left 1
  · (intro w hSw; (try dsimp only at hSw); go_simp; try with_reducible rfl)
  (try simp only [Act.put, List.setIfInBounds_toArray, List.set_cons_zero, List.set_cons_succ])
  refine wpAnyH_take (i := 12) (oi := { dst := some 49, op := Op.fieldAddr 57 (Operand.tmp 48) 4, type := 0, pos := "index.go:107", after := #[{ on := 11, ground := Ground.data }], guard := none }) (v := ?_) rfl (by kernel_rfl) (by kernel_rfl) (by kernel_rfl) (fun _ _ _ h => h) (Or.inl ⟨by rfl, ?_⟩) (by assumption) ?_
  rotate_left 1
  · (intro w hSw; (try dsimp only at hSw); go_simp; try with_reducible rfl)
  (try simp only [Act.put, List.setIfInBounds_toArray, List.set_cons_zero, List.set_cons_succ])
  refine wpAnyH_take (i := 13) (oi := { dst := some 50, op := Op.load 33 (Operand.tmp 49), type := 33, pos := "index.go:107", after := #[{ on := 12, ground := Ground.data }], guard := none }) (v := ?_) rfl (by kernel_rfl) (by kernel_rfl) (by kernel_rfl) (fun _ _ _ h => h) (Or.inl ⟨by rfl, ?_⟩) (by assumption) ?_
  rotate_left 1
  · (intro w hSw; (try dsimp only at hSw); go_simp; try with_reducible rfl)
  (try simp only [Act.put, List.setIfInBounds_toArray, List.set_cons_zero, List.set_cons_succ])
  refine wpAnyH_take (i := 15) (oi := { dst := some 52, op := Op.fieldAddr 59 (Operand.tmp 6) 0, type := 0, pos := "index.go:107", after := #[], guard := none }) (v := ?_) rfl (by kernel_rfl) (by kernel_rfl) (by kernel_rfl) (fun _ _ _ h => h) (Or.inl ⟨by rfl, ?_⟩) (by assumption) ?_
  rotate_left 1
  · (intro w hSw; (try dsimp only at hSw); go_simp; try with_reducible rfl)
  (try simp only [Act.put, List.setIfInBounds_toArray, List.set_cons_zero, List.set_cons_succ])
  refine wpAnyH_take (i := 16) (oi := { dst := some 53, op := Op.load 33 (Operand.tmp 52), type := 33, pos := "index.go:107", after := #[{ on := 15, ground := Ground.data }], guard := none }) (v := ?_) rfl (by kernel_rfl) (by kernel_rfl) (by kernel_rfl) (fun _ _ _ h => h) (Or.inl ⟨by rfl, ?_⟩) (by assumption) ?_
  rotate_left 1
  · (intro w hSw; (try dsimp only at hSw); go_simp; try with_reducible rfl)
  (try simp only [Act.put, List.setIfInBounds_toArray, List.set_cons_zero, List.set_cons_succ])
  have HC1 : Hid (ItS b5 px b6 bn bb t q (u, ⟨vk, vb, vn, vs, vu⟩) (W.alloc (.cells #[.int .u64 u] 33)).drew) := Lib.hid (HSK.out _ _ (((Fr.refl (fun j => j = bb ∨ R j) W).alloc (.cells #[.int .u64 u] 33)).drew) hcur0)
  have HF1 : Hid (Fr N0 W (W.alloc (.cells #[.int .u64 u] 33)).drew) := Lib.hid (((Fr.refl N0 W).alloc (.cells #[.int .u64 u] 33)).drew)
  clear hcur0
  refine wpAnyH_ready (rs := [14, 17]) (by kernel_rfl) (by simp) ?_
  refine AllReadyH.cons (o := { dst := some 51, op := Op.lookup 166 (Operand.tmp 47) (Operand.tmp 50) false, type := 35, pos := "index.go:107", after := #[{ on := 10, ground := Ground.data }, { on := 13, ground := Ground.data }], guard := none }) rfl (fun K' hK' => ?_) ?_
  · have hlk0 := HLK.out _ HF0.out
    go_simp
    refine hK'.out _ _ hcur (fun hHeld => ?_)
    clear hK' K' hlk0 hcur
    (try simp only [Act.put, List.setIfInBounds_toArray, List.set_cons_zero, List.set_cons_succ])
    refine wpAnyH_ready (rs := [17]) (by kernel_rfl) (by simp) ?_
    refine AllReadyH.cons (o := { dst := some 54, op := Op.buildSlice 35 1 #[(0, Operand.tmp 53)], type := 35, pos := "index.go:107", after := #[{ on := 16, ground := Ground.data }], guard := none }) rfl (fun K' hK' => ?_) ?_
    · go_simp
      refine hK'.out _ _ HC1.out (fun hHeld => ?_)
      clear hK' K'
      (try simp only [Act.put, List.setIfInBounds_toArray, List.set_cons_zero, List.set_cons_succ])
      refine wpAnyH_ready (rs := [18]) (by kernel_rfl) (by simp) ?_
      refine AllReadyH.cons (o := { dst := some 55, op := Op.call { callee := Callee.builtin Builtin.append, args := #[Operand.tmp 51, Operand.tmp 54], argTypes := #[35, 35] }, type := 35, pos := "index.go:107", after := #[{ on := 14, ground := Ground.data }, { on := 17, ground := Ground.data }], guard := none }) rfl (fun K' hK' => ?_) ?_
      · refine step_append_lies _ rfl _ _ 35 rfl lo 33 i0 (.int .u64 0) 1 8 Tryz.underlying35 hi hz0 hz1 hz2 rfl (by decide) v0 n row rfl (HROW.out.fr0 HF1.out) ⟨W.heap.size, 0, none⟩ 1 1 [.int .u64 u] rfl rfl (World.news_of_block (cs := #[.int .u64 u]) (t := 33) (fr := (0, 0)) (show (W.alloc _).heap[W.heap.size]? = _ from World.alloc_heap_new W _)) (by simp [Value.oneCell']) (by omega) (by unfold maxLen; omega) (by omega) (by have := HF1.out.size; omega) _ rfl ?_
        intro g1 cap1 w1 hown1 hgrow1 hfresh1 hlt1
        have hgr : Fr (fun j => v0.ownBlock = some j) _ w1 := (Fr.refl _ _).grown hgrow1 fun j e => .inl e
        have hcur1 := HSK.out _ _ (hgr.mono fun j e => .inl (.inr (HOWN.out j e).1)) HC1.out
        have hmm := (HM.out.fr HF1.out id).fr hgr (fun h => (HOWN.out _ h).2 rfl)
        obtain ⟨w2, hrun2, hm2, hf2⟩ := hmm.store lawU Tryz.underlying166 (by unfold maxLen; omega) HKU.out (.slice (some ⟨g1, 0, none⟩) (n + 1) cap1)
        have hcur2 := HSK.out _ _ (hf2.mono fun j e => .inl (.inl e)) hcur1
        have HX := Lib.hid (HAPP.out _ w1 w2 (.slice (some ⟨g1, 0, none⟩) (n + 1) cap1) g1 cap1 HF1.out rfl hown1 hgrow1 hfresh1 hlt1 hm2 hf2)
        have HM2 := Lib.hid hm2
        refine hK'.out _ _ hcur1 (fun hHeld => ?_)
        clear hK' K' hcur1 hm2 hf2 hmm hgr hown1 hgrow1 hfresh1 hlt1
        (try simp only [Act.put, List.setIfInBounds_toArray, List.set_cons_zero, List.set_cons_succ])
        refine wpAnyH_ready (rs := [19]) (by kernel_rfl) (by simp) ?_
        refine AllReadyH.cons (o := { dst := none, op := Op.mapUpdate 166 (Operand.tmp 40) (Operand.tmp 43) (Operand.tmp 55), type := 0, pos := "index.go:107", after := #[{ on := 3, ground := Ground.data }, { on := 6, ground := Ground.data }, { on := 18, ground := Ground.data }, { on := 18, ground := Ground.chain }, { on := 0, ground := Ground.phase }, { on := 1, ground := Ground.phase }, { on := 2, ground := Ground.phase }, { on := 3, ground := Ground.phase }, { on := 4, ground := Ground.phase }, { on := 5, ground := Ground.phase }, { on := 6, ground := Ground.phase }, { on := 7, ground := Ground.phase }, { on := 8, ground := Ground.phase }, { on := 9, ground := Ground.phase }, { on := 10, ground := Ground.phase }, { on := 11, ground := Ground.phase }, { on := 12, ground := Ground.phase }, { on := 13, ground := Ground.phase }, { on := 14, ground := Ground.phase }, { on := 15, ground := Ground.phase }, { on := 16, ground := Ground.phase }, { on := 17, ground := Ground.phase }, { on := 18, ground := Ground.phase }], guard := none }) rfl (fun K' hK' => ?_) ?_
        · go_simp
          refine hK'.out _ _ hcur2 (fun hHeld => ?_)
          clear hK' K'
          (try simp only [Act.put, List.setIfInBounds_toArray, List.set_cons_zero, List.set_cons_succ])
          refine wpAnyH_done (by kernel_rfl) ?_ _
          obtain ⟨g2, hp, hg0, hfr⟩ := HX.out
          show Q .normal _ _
          refine cut_useQ (n := 57) (Q := Q) (e := .normal) _ rfl ?_
          exact HK.out _ w2 (.slice (some ⟨g1, 0, none⟩) (n + 1) cap1) g1 g2 (by rw [H5.out]; rfl) (by rw [H6.out]; rfl) hcur2 HM2.out hp hg0 hfr
        · exact AllReadyH.nil
      · exact AllReadyH.nil
    · exact AllReadyH.nil
  refine AllReadyH.cons (o := { dst := some 54, op := Op.buildSlice 35 1 #[(0, Operand.tmp 53)], type := 35, pos := "index.go:107", after := #[{ on := 16, ground := Ground.data }], guard := none }) rfl (fun K' hK' => ?_) ?_
  · go_simp
    refine hK'.out _ _ HC1.out (fun hHeld => ?_)
    clear hK' K' hcur
    (try simp only [Act.put, List.setIfInBounds_toArray, List.set_cons_zero, List.set_cons_succ])
    refine wpAnyH_ready (rs := [14]) (by kernel_rfl) (by simp) ?_
    refine AllReadyH.cons (o := { dst := some 51, op := Op.lookup 166 (Operand.tmp 47) (Operand.tmp 50) false, type := 35, pos := "index.go:107", after := #[{ on := 10, ground := Ground.data }, { on := 13, ground := Ground.data }], guard := none }) rfl (fun K' hK' => ?_) ?_
    · have hlk0 := HLK.out _ HF1.out
      go_simp
      refine hK'.out _ _ HC1.out (fun hHeld => ?_)
      clear hK' K' hlk0
      (try simp only [Act.put, List.setIfInBounds_toArray, List.set_cons_zero, List.set_cons_succ])
      refine wpAnyH_ready (rs := [18]) (by kernel_rfl) (by simp) ?_
      refine AllReadyH.cons (o := { dst := some 55, op := Op.call { callee := Callee.builtin Builtin.append, args := #[Operand.tmp 51, Operand.tmp 54], argTypes := #[35, 35] }, type := 35, pos := "index.go:107", after := #[{ on := 14, ground := Ground.data }, { on := 17, ground := Ground.data }], guard := none }) rfl (fun K' hK' => ?_) ?_
      · refine step_append_lies _ rfl _ _ 35 rfl lo 33 i0 (.int .u64 0) 1 8 Tryz.underlying35 hi hz0 hz1 hz2 rfl (by decide) v0 n row rfl (HROW.out.fr0 HF1.out) ⟨W.heap.size, 0, none⟩ 1 1 [.int .u64 u] rfl rfl (World.news_of_block (cs := #[.int .u64 u]) (t := 33) (fr := (0, 0)) (show (W.alloc _).heap[W.heap.size]? = _ from World.alloc_heap_new W _)) (by simp [Value.oneCell']) (by omega) (by unfold maxLen; omega) (by omega) (by have := HF1.out.size; omega) _ rfl ?_
        intro g1 cap1 w1 hown1 hgrow1 hfresh1 hlt1
        have hgr : Fr (fun j => v0.ownBlock = some j) _ w1 := (Fr.refl _ _).grown hgrow1 fun j e => .inl e
        have hcur1 := HSK.out _ _ (hgr.mono fun j e => .inl (.inr (HOWN.out j e).1)) HC1.out
        have hmm := (HM.out.fr HF1.out id).fr hgr (fun h => (HOWN.out _ h).2 rfl)
        obtain ⟨w2, hrun2, hm2, hf2⟩ := hmm.store lawU Tryz.underlying166 (by unfold maxLen; omega) HKU.out (.slice (some ⟨g1, 0, none⟩) (n + 1) cap1)
        have hcur2 := HSK.out _ _ (hf2.mono fun j e => .inl (.inl e)) hcur1
        have HX := Lib.hid (HAPP.out _ w1 w2 (.slice (some ⟨g1, 0, none⟩) (n + 1) cap1) g1 cap1 HF1.out rfl hown1 hgrow1 hfresh1 hlt1 hm2 hf2)
        have HM2 := Lib.hid hm2
        refine hK'.out _ _ hcur1 (fun hHeld => ?_)
        clear hK' K' hcur1 hm2 hf2 hmm hgr hown1 hgrow1 hfresh1 hlt1
        (try simp only [Act.put, List.setIfInBounds_toArray, List.set_cons_zero, List.set_cons_succ])
        refine wpAnyH_ready (rs := [19]) (by kernel_rfl) (by simp) ?_
        refine AllReadyH.cons (o := { dst := none, op := Op.mapUpdate 166 (Operand.tmp 40) (Operand.tmp 43) (Operand.tmp 55), type := 0, pos := "index.go:107", after := #[{ on := 3, ground := Ground.data }, { on := 6, ground := Ground.data }, { on := 18, ground := Ground.data }, { on := 18, ground := Ground.chain }, { on := 0, ground := Ground.phase }, { on := 1, ground := Ground.phase }, { on := 2, ground := Ground.phase }, { on := 3, ground := Ground.phase }, { on := 4, ground := Ground.phase }, { on := 5, ground := Ground.phase }, { on := 6, ground := Ground.phase }, { on := 7, ground := Ground.phase }, { on := 8, ground := Ground.phase }, { on := 9, ground := Ground.phase }, { on := 10, ground := Ground.phase }, { on := 11, ground := Ground.phase }, { on := 12, ground := Ground.phase }, { on := 13, ground := Ground.phase }, { on := 14, ground := Ground.phase }, { on := 15, ground := Ground.phase }, { on := 16, ground := Ground.phase }, { on := 17, ground := Ground.phase }, { on := 18, ground := Ground.phase }], guard := none }) rfl (fun K' hK' => ?_) ?_
        · go_simp
          refine hK'.out _ _ hcur2 (fun hHeld => ?_)
          clear hK' K'
          (try simp only [Act.put, List.setIfInBounds_toArray, List.set_cons_zero, List.set_cons_succ])
          refine wpAnyH_done (by kernel_rfl) ?_ _
          obtain ⟨g2, hp, hg0, hfr⟩ := HX.out
          show Q .normal _ _
          refine cut_useQ (n := 57) (Q := Q) (e := .normal) _ rfl ?_
          exact HK.out _ w2 (.slice (some ⟨g1, 0, none⟩) (n + 1) cap1) g1 g2 (by rw [H5.out]; rfl) (by rw [H6.out]; rfl) hcur2 HM2.out hp hg0 hfr
        · exact AllReadyH.nil
      · exact AllReadyH.nil
    · exact AllReadyH.nil
  · exact AllReadyH.nil
end Go.Proofs.YtefepfiijoafbaaGreat
