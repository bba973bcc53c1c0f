/- The law's step: writing. -/
import Derived.Deep.RegionHeld3
import Derived.Test.YthidminepegnoaaGreatDoorQStepS
import Derived.Test.YthidminepegnoaaGreatDoorQPWrite
import Derived.Test.YthidminepegnoaaGreatDoorQLoops
namespace Go.Proofs.YthidminepegnoaaGreatDoor
open Go.RowKit Go.Shelf Go.Maps Go.Sort
attribute [local go_sem] Oper.semAt_some
attribute [local irreducible] wpQuiet
set_option linter.unusedVariables false
set_option linter.unusedSimpArgs false

abbrev zeroSchV : Value := .agg #[.string ⟨#[]⟩, .int .u8 0, .bool false, .bool false, .bool false, .bool false, .bool false, .bool false]
theorem infoSch : (Tryz.prog.info? 72).map (fun i => (i.zero, i.size, i.bytes)) = some (some zeroSchV, 8, 24) := by kernel_rfl
abbrev zeroTbV : Value := .agg #[.string ⟨#[]⟩, .int .u32 0, .int .u32 0, .int .u64 0, .int .u64 0]
theorem infoTb : (Tryz.prog.info? 43).map (fun i => (i.zero, i.size, i.bytes)) = some (some zeroTbV, 5, 40) := by kernel_rfl
theorem tb_one : ∀ (y : Tb), ∀ u ∈ y.enc, u.oneCell' = true := fun y u hu => by
  unfold Tb.enc at hu
  simp only [List.mem_cons, List.not_mem_nil, or_false] at hu
  rcases hu with rfl | rfl | rfl | rfl | rfl <;> rfl
/-- What an append to no list makes. -/
theorem rows_one {α : Type} {enc : α → List Value} {n : Nat} (hn : ∀ x, (enc x).length = n) (h0 : 0 < n) {w : World} {base : Nat} {e : TypeId} {v : Value} {xs : List α} (h : w.ownsRow base e n v (0 + xs.length) ([] ++ xs.flatMap enc)) :
    ∃ a c b, v = .slice a xs.length c ∧ base ≤ b ∧ RowsK enc n w b (.slice a xs.length c) xs := by
  rw [Nat.zero_add, List.nil_append] at h
  obtain ⟨b, hb, hr⟩ := rowsK_of_row hn h0 h
  obtain ⟨a, o, c, e, -⟩ := id hr
  exact ⟨a, c, b, e, hb, e ▸ hr⟩

theorem three (w : World) (A B C : Obj) : ∃ W0, ((w.alloc A).alloc B).alloc C = W0 ∧ Fr N0 w W0 ∧ W0.heap[w.heap.size]? = some A ∧ W0.heap[w.heap.size + 1]? = some B ∧ W0.heap[w.heap.size + 2]? = some C :=
  ⟨_, rfl, (((Fr.refl N0 w).alloc _).alloc _).alloc _, blk0 (blk0 (blkN rfl)), blk0 (blkN (by simp)), blkN (by simp)⟩
/-- Two boxes that are read while calls go on. -/
abbrev BoxT2 (W0 : World) (A B : Nat) (ca cb : Array Value) (W : World) : Prop := (∀ i, W.cell? ⟨A, i, none⟩ = ca[i]?) ∧ (∀ i, W.cell? ⟨B, i, none⟩ = cb[i]?) ∧ (A < W.heap.size ∧ B < W.heap.size) ∧ Fr N0 W0 W
theorem boxT2_keep {W0 : World} {A B : Nat} {ca cb : Array Value} {W W' : World} (hf : Fr N0 W W') (h : BoxT2 W0 A B ca cb W) : BoxT2 W0 A B ca cb W' :=
  ⟨fun i => (cell_same (p := ⟨A, i, none⟩) (hf.at id h.2.2.1.1)).trans (h.1 i), fun i => (cell_same (p := ⟨B, i, none⟩) (hf.at id h.2.2.1.2)).trans (h.2.1 i), ⟨Nat.lt_of_lt_of_le h.2.2.1.1 hf.size, Nat.lt_of_lt_of_le h.2.2.1.2 hf.size⟩, h.2.2.2.then0 hf⟩
theorem boxT2_set {W0 : World} {A B : Nat} {ca cb : Array Value} {W : World} {X i : Nat} {v : Value} (hX : W0.heap.size ≤ X) (hA : A < W0.heap.size) (hB : B < W0.heap.size) (h : BoxT2 W0 A B ca cb W) : BoxT2 W0 A B ca cb (W.setCell ⟨X, i, none⟩ v) := by
  have hf : Fr (fun k => k = X) W (W.setCell ⟨X, i, none⟩ v) := (Fr.refl (fun k => k = X) W).setCell (p := ⟨X, i, none⟩) (.inl rfl) v
  exact ⟨fun j => (cell_same (p := ⟨A, j, none⟩) (hf.at (k := A) (by show ¬ A = X; omega) h.2.2.1.1)).trans (h.1 j), fun j => (cell_same (p := ⟨B, j, none⟩) (hf.at (k := B) (by show ¬ B = X; omega) h.2.2.1.2)).trans (h.2.1 j),
    ⟨Nat.lt_of_lt_of_le h.2.2.1.1 hf.size, Nat.lt_of_lt_of_le h.2.2.1.2 hf.size⟩, h.2.2.2.trans hf fun k hk => .inr (by rw [show k = X from hk]; exact hX)⟩
theorem boxT2_set9 {W0 : World} {A B : Nat} {ca cb : Array Value} {W : World} {X : Nat} {v0 v1 v2 v3 v4 v5 v6 v7 v8 : Value} (hX : W0.heap.size ≤ X) (hA : A < W0.heap.size) (hB : B < W0.heap.size) (h : BoxT2 W0 A B ca cb W) : BoxT2 W0 A B ca cb (((((((((W.setCell ⟨X, 0, none⟩ v0).setCell ⟨X, 1, none⟩ v1).setCell ⟨X, 2, none⟩ v2).setCell ⟨X, 3, none⟩ v3).setCell ⟨X, 4, none⟩ v4).setCell ⟨X, 5, none⟩ v5).setCell ⟨X, 6, none⟩ v6).setCell ⟨X, 7, none⟩ v7).setCell ⟨X, 8, none⟩ v8) :=
  boxT2_set hX hA hB (boxT2_set hX hA hB (boxT2_set hX hA hB (boxT2_set hX hA hB (boxT2_set hX hA hB (boxT2_set hX hA hB (boxT2_set hX hA hB (boxT2_set hX hA hB (boxT2_set hX hA hB h))))))))
theorem fr_new {A B C : World} (h : Fr N0 A B) (hg : B.grownBy C (Value.slice none 0 0).ownBlock) : Fr N0 A C := h.grown hg fun q e => by simp [Value.ownBlock] at e

set_option maxRecDepth 100000 in
set_option maxHeartbeats 4000000 in
theorem lStep1 (w : World) (v : Value) (t : Txn) (h : IsTxn w v t) (hv : Inv t) (r : AkV) (a : Ak) (ha : r.Is w a) (hM : MaxAt w) (hfl : a.l.length ≤ 1000) (hfw : a.ws.length ≤ 1000) :
    Calls Tryz.prog 12 #[.int .i64 1, v, .agg r.enc.toArray] w fun e w' => StepPost w (sWrite t a.l a.ws).1 [] (sWrite t a.l a.ws).2 e w' := by
  have hX := fun (W : World) (hf : Fr N0 w W) bl bw vl vws (hl : Schs W bl vl a.l) (hw : Wrs W bw vws a.ws) => xWrite_any W v t (h.fr0 hf) hv bl bw vl vws a.l a.ws hl hw (fun x hx => (ha.wsOk x hx).1) (fun x hx => (ha.wsOk x hx).2) (hM.fr0 hf) hfl hfw
  obtain ⟨i0, hi, hz0, hz1, hz2⟩ := info_parts infoSch
  obtain ⟨j0, hj, hy0, hy1, hy2⟩ := info_parts infoWr
  obtain ⟨-, ⟨bl, hl⟩, ⟨bw, hw⟩, -, -, -, -, -⟩ := ha
  obtain ⟨vw, vk, vn, vg, vl, rfl, h⟩ := h
  obtain ⟨⟨aw, cw, rfl⟩, ⟨ak, ck, rfl⟩, ⟨an, cn, rfl⟩, ⟨ag, cg, rfl⟩, ⟨al, cl, rfl⟩⟩ := h.shapes
  clear h
  obtain ⟨S, hS⟩ : ∃ S, sWrite t a.l a.ws = S := ⟨_, rfl⟩
  rw [hS]
  simp only [hS] at hX
  obtain ⟨L, hL⟩ : ∃ L, a.l = L := ⟨_, rfl⟩
  obtain ⟨V, hV⟩ : ∃ V, a.ws = V := ⟨_, rfl⟩
  rw [hL] at hl hfl; rw [hV] at hw hfw
  simp only [hL, hV] at hX
  clear hS hL hV
  obtain ⟨⟨ac, af, am, tp, tg, tt, ta, tu⟩, rl, rw_, rt, rg, rc, rp⟩ := r
  unfold AkV.enc An.enc
  simp only [List.cons_append, List.nil_append] at hl hw ⊢
  have HX := Lib.hid hX; have HL := Lib.hid hl; have HW := Lib.hid hw
  clear hX hl hw
  go_enter Tryz.func12, Tryz.ntmps12
  go_wp2
  obtain ⟨W0, hW0, hF0, hbt, hba, hbr⟩ := three w (.cells #[.int .u8 t.phase, .int .u64 t.start, .int .u64 t.commit, .slice aw t.writes.length cw, .slice ak t.keys.length ck, .slice an t.needs.length cn, .slice ag t.groups.length cg, .slice al t.left.length cl, .bool t.failed] 32) (.cells #[.int .i64 ac, .int .u64 af, .int .u64 am, .string tp, .int .u32 tg, .int .u32 tt, .int .u64 ta, .int .u64 tu, rl, rw_, rt, .int .u32 rg, .int .i64 rc, .string rp] 49) (.cells #[.int .u8 0, .int .u64 0, .int .u64 0, .slice none 0 0, .slice none 0 0, .slice none 0 0, .slice none 0 0, .slice none 0 0, .bool false] 32)
  rw [hW0]
  clear hW0
  obtain ⟨mt0, nt0, lt0⟩ := box_cells hbt
  obtain ⟨ma0, na0, la0⟩ := box_cells hba
  have HBT := Lib.hid hbt; have HBA := Lib.hid hba; have HBR := Lib.hid hbr
  clear hbt hba hbr
  have HT0 : Hid (BoxT2 W0 w.heap.size (w.heap.size + 1) #[.int .u8 t.phase, .int .u64 t.start, .int .u64 t.commit, .slice aw t.writes.length cw, .slice ak t.keys.length ck, .slice an t.needs.length cn, .slice ag t.groups.length cg, .slice al t.left.length cl, .bool t.failed] #[.int .i64 ac, .int .u64 af, .int .u64 am, .string tp, .int .u32 tg, .int .u32 tt, .int .u64 ta, .int .u64 tu, rl, rw_, rt, .int .u32 rg, .int .i64 rc, .string rp] W0) := ⟨(box_cells HBT.out).1, (box_cells HBA.out).1, ⟨(box_cells HBT.out).2.2, (box_cells HBA.out).2.2⟩, Fr.refl _ _⟩
  have hWl := (box_cells HBR.out).2.2
  have hWA : w.heap.size < W0.heap.size := by omega
  have hWB : w.heap.size + 1 < W0.heap.size := by omega
  clear mt0 nt0 lt0 ma0 na0 la0
  go_region_held3 (BoxT2 W0 w.heap.size (w.heap.size + 1) #[.int .u8 t.phase, .int .u64 t.start, .int .u64 t.commit, .slice aw t.writes.length cw, .slice ak t.keys.length ck, .slice an t.needs.length cn, .slice ag t.groups.length cg, .slice al t.left.length cl, .bool t.failed] #[.int .i64 ac, .int .u64 af, .int .u64 am, .string tp, .int .u32 tg, .int .u32 tt, .int .u64 ta, .int .u64 tu, rl, rw_, rt, .int .u32 rg, .int .i64 rc, .string rp])
    (first | (with_reducible exact boxT2_set9 hXl hWA hWB (boxT2_keep hf30 HT0.out)) | (with_reducible assumption) | (with_reducible exact boxT2_keep (Fr.refl _ _).drew HT0.out) | (with_reducible exact boxT2_keep hf30 HT0.out) | (with_reducible exact boxT2_keep hW0 HT0.out) | (with_reducible exact boxT2_keep hS0 HT0.out) | (with_reducible exact boxT2_keep (hf30.alloc _) HT0.out) | (with_reducible exact boxT2_keep (hW0.alloc _) HT0.out) | (with_reducible exact boxT2_keep (hS0.alloc _) HT0.out) | (with_reducible exact boxT2_keep ((Fr.refl _ _).drew.alloc _) HT0.out)) (first
    | (refine step_append_rows rfl _ _ 46 rfl 0 72 i0 zeroSchV 8 24 Tryz.underlying46 hi hz0 hz1 hz2 rfl (by decide) (.slice none 0 0) 0 [] (by simp [Act.eval, Act.put]) (World.ownsRow_nil _ _ _ _) (enc := Sch.enc) (fun _ => rfl) sch_one bl _ L (by simp [Act.eval, Act.put]) (Schs.fr0 HL.out (hF0.then0 (by go_split_ands; assumption))) (by unfold maxLen; omega) (by omega) (by omega) ?_; intro vS wS hownS hgrowS; have hS1 := fr_new (Fr.refl N0 _) hgrowS; have hS0 : Fr N0 W0 wS := fr_new (by go_split_ands; assumption) hgrowS; obtain ⟨aS, cS, bS, rfl, -, hrS⟩ := rows_one (enc := Sch.enc) (n := 8) (fun _ => rfl) (by decide) hownS; have HRS := Lib.hid hrS;   (try have hWS : Fr N0 wW wS := fr_new (by repeat (first | exact Fr.refl _ _ | assumption | refine Fr.alloc ?_ _ | refine Fr.drew ?_ | refine Fr.drewN ?_ _ | refine Fr.setCell ?_ (.inr (by simp; try omega)) _)) hgrowS); clear hownS hgrowS hrS)
    | (refine step_append_rows rfl _ _ 27 rfl 0 65 j0 zeroWrV 8 72 Tryz.underlying27 hj hy0 hy1 hy2 rfl (by decide) (.slice none 0 0) 0 [] (by simp [Act.eval, Act.put]) (World.ownsRow_nil _ _ _ _) (enc := Wr.enc) (fun _ => rfl) wr_one bw _ V (by simp [Act.eval, Act.put]) (Wrs.fr0 HW.out (hF0.then0 (by go_split_ands; assumption))) (by unfold maxLen; omega) (by omega) (by omega) ?_; intro vW wW hownW hgrowW; have hW1 := fr_new (Fr.refl N0 _) hgrowW; have hW0 : Fr N0 W0 wW := fr_new (by go_split_ands; assumption) hgrowW; obtain ⟨aW, cW, bW, rfl, -, hrW⟩ := rows_one (enc := Wr.enc) (n := 8) (fun _ => rfl) (by decide) hownW; have HRW := Lib.hid hrW;   (try have hSW : Fr N0 wS wW := fr_new (by repeat (first | exact Fr.refl _ _ | assumption | refine Fr.alloc ?_ _ | refine Fr.drew ?_ | refine Fr.drewN ?_ _ | refine Fr.setCell ?_ (.inr (by simp; try omega)) _)) hgrowW); clear hownW hgrowW hrW)
    | (go_simp; go_at_call 24; refine (HX.out _ (hF0.then0 (by go_split_ands; assumption)) _ _ _ _ (Schs.fr0 HRS.out (by repeat (first | exact Fr.refl _ _ | assumption | refine Fr.alloc ?_ _ | refine Fr.drew ?_ | refine Fr.drewN ?_ _ | refine Fr.setCell ?_ (.inr (by simp; try omega)) _))) (Wrs.fr0 HRW.out (by repeat (first | exact Fr.refl _ _ | assumption | refine Fr.alloc ?_ _ | refine Fr.drew ?_ | refine Fr.drewN ?_ _ | refine Fr.setCell ?_ (.inr (by simp; try omega)) _)))).mono ?_; rintro e w3 ⟨v3, rfl, ⟨vw3, vk3, vn3, vg3, vl3, rfl, hT⟩, hf3⟩; have hf30 : Fr N0 W0 w3 := Fr.then0 (by go_split_ands; assumption) hf3; (first | (have hx := hf3.held wW.heap.size (blkN rfl); obtain ⟨X, hXe⟩ : ∃ X, wW.heap.size = X := ⟨_, rfl⟩; have hXl : W0.heap.size ≤ X := (by rw [← hXe]; exact hW0.size); rw [hXe] at hx ⊢; obtain ⟨mx, nx, lx⟩ := box_cells hx; have HXB := Lib.hid hx; clear hx hXe) | (have hx := hf3.held wS.heap.size (blkN rfl); obtain ⟨X, hXe⟩ : ∃ X, wS.heap.size = X := ⟨_, rfl⟩; have hXl : W0.heap.size ≤ X := (by rw [← hXe]; exact hS0.size); rw [hXe] at hx ⊢; obtain ⟨mx, nx, lx⟩ := box_cells hx; have HXB := Lib.hid hx; clear hx hXe) | (have hx := hf3.held wS.heap.size (hW1.held wS.heap.size (blkN rfl)); obtain ⟨X, hXe⟩ : ∃ X, wS.heap.size = X := ⟨_, rfl⟩; have hXl : W0.heap.size ≤ X := (by rw [← hXe]; exact hS0.size); rw [hXe] at hx ⊢; obtain ⟨mx, nx, lx⟩ := box_cells hx; have HXB := Lib.hid hx; clear hx hXe) | (have hx := hf3.held wW.heap.size (hS1.held wW.heap.size (blkN rfl)); obtain ⟨X, hXe⟩ : ∃ X, wW.heap.size = X := ⟨_, rfl⟩; have hXl : W0.heap.size ≤ X := (by rw [← hXe]; exact hW0.size); rw [hXe] at hx ⊢; obtain ⟨mx, nx, lx⟩ := box_cells hx; have HXB := Lib.hid hx; clear hx hXe) | (have hx := hf3.held W0.heap.size (hW1.held W0.heap.size (hS1.held W0.heap.size (blkN rfl))); obtain ⟨X, hXe⟩ : ∃ X, W0.heap.size = X := ⟨_, rfl⟩; have hXl : W0.heap.size ≤ X := (by rw [← hXe]; exact Nat.le_refl _); rw [hXe] at hx ⊢; obtain ⟨mx, nx, lx⟩ := box_cells hx; have HXB := Lib.hid hx; clear hx hXe) | (have hx := hf3.held W0.heap.size (hS1.held W0.heap.size (hW1.held W0.heap.size (blkN rfl))); obtain ⟨X, hXe⟩ : ∃ X, W0.heap.size = X := ⟨_, rfl⟩; have hXl : W0.heap.size ≤ X := (by rw [← hXe]; exact Nat.le_refl _); rw [hXe] at hx ⊢; obtain ⟨mx, nx, lx⟩ := box_cells hx; have HXB := Lib.hid hx; clear hx hXe) | skip); have hbr := hf30.held (w.heap.size + 2) HBR.out; obtain ⟨m3, n3, l3⟩ := box_cells hbr; have HBR3 := Lib.hid hbr; obtain ⟨⟨aw3, cw3, rfl⟩, ⟨ak3, ck3, rfl⟩, ⟨an3, cn3, rfl⟩, ⟨ag3, cg3, rfl⟩, ⟨al3, cl3, rfl⟩⟩ := hT.shapes; have HT := Lib.hid hT; clear hbr hT)
    | fail)
  all_goals
    have hF3 : Fr N0 w w3 := hF0.then0 hf30
    have HF3 := Lib.hid hF3
    clear hF3
    go_wp2
    (try simp only [Exit.inBlock, Exit.then])
    first
      | (have hq := hXl
         have hfx := txn_box_fr (B := X) (v0 := .int .u8 S.1.phase) (v1 := .int .u64 S.1.start) (v2 := .int .u64 S.1.commit) (v3 := .slice aw3 S.1.writes.length cw3) (v4 := .slice ak3 S.1.keys.length ck3) (v5 := .slice an3 S.1.needs.length cn3) (v6 := .slice ag3 S.1.groups.length cg3) (v7 := .slice al3 S.1.left.length cl3) (v8 := .bool S.1.failed) (Fr.refl (fun k => k = X) w3) (.inl rfl)
         have hz := (hfx.at (k := w.heap.size + 2) (by show ¬ w.heap.size + 2 = X; omega) (lt_of_block HBR3.out)).trans HBR3.out
         refine bodyPost_ret_by (results_row3 rfl _ _ (w.heap.size + 2) 32 _ (0, 0) _ rfl (txn_box_set hz) rfl rfl Tryz.underlying32 rfl sizeTxn) rfl ?_
         exact (told_store (w := w) (by omega) hz (dull_txn _ _ _ _ _ _ _ _ _ _ _ _ _ _ _ _ _ _ _) ⟨_, _, _, _, _, rfl, HT.out.past HXB.out (dull_txn _ _ _ _ _ _ _ _ _ _ _ _ _ _ _ _ _ _ _) hfx⟩ (outs_nil _) (HF3.out.trans hfx fun k hk => .inr (by rw [show k = X from hk]; omega))).step)
      | (refine bodyPost_ret_by (results_row3 rfl _ _ (w.heap.size + 2) 32 _ (0, 0) _ rfl (blk0 (txn_box_set HBR3.out)) rfl rfl Tryz.underlying32 rfl sizeTxn) rfl ?_
         exact ((told_store (w := w) (by omega) HBR3.out (dull_txn _ _ _ _ _ _ _ _ _ _ _ _ _ _ _ _ _ _ _) ⟨_, _, _, _, _, rfl, HT.out⟩ (outs_nil _) HF3.out).alloc _).step)
end Go.Proofs.YthidminepegnoaaGreatDoor
