/- The law's step: asking to be committed; each step. -/
import Derived.Test.YthidminepegnoaaGreatDoorQStep1
import Derived.Test.YthidminepegnoaaGreatDoorQStep
import Derived.Test.YthidminepegnoaaGreatDoorQPCommit2
namespace Go.Proofs.YthidminepegnoaaGreatDoor
open Go.RowKit Go.Shelf Go.Maps Go.Sort
attribute [local go_sem] Oper.semAt_some
attribute [local irreducible] wpQuiet
set_option linter.unusedVariables false
set_option linter.unusedSimpArgs false

theorem boxT2_setR {W0 : World} {A B : Nat} {ca cb : Array Value} {W : World} {X i : Nat} {v : Value} (hX : W0.heap.size ≤ X) (hA : A ≠ X) (hB : B ≠ X) (h : BoxT2 W0 A B ca cb W) : BoxT2 W0 A B ca cb (W.setCell ⟨X, i, none⟩ v) := by
  have hf : Fr (fun k => k = X) W (W.setCell ⟨X, i, none⟩ v) := (Fr.refl (fun k => k = X) W).setCell (p := ⟨X, i, none⟩) (.inl rfl) v
  exact ⟨fun j => (cell_same (p := ⟨A, j, none⟩) (hf.at (k := A) hA h.2.2.1.1)).trans (h.1 j), fun j => (cell_same (p := ⟨B, j, none⟩) (hf.at (k := B) hB h.2.2.1.2)).trans (h.2.1 j),
    ⟨Nat.lt_of_lt_of_le h.2.2.1.1 hf.size, Nat.lt_of_lt_of_le h.2.2.1.2 hf.size⟩, h.2.2.2.trans hf fun k hk => .inr (by rw [show k = X from hk]; exact hX)⟩
theorem boxT2_setR9 {W0 : World} {A B : Nat} {ca cb : Array Value} {W : World} {X : Nat} {v0 v1 v2 v3 v4 v5 v6 v7 v8 : Value} (hX : W0.heap.size ≤ X) (hA : A ≠ X) (hB : B ≠ X) (h : BoxT2 W0 A B ca cb W) : BoxT2 W0 A B ca cb (((((((((W.setCell ⟨X, 0, none⟩ v0).setCell ⟨X, 1, none⟩ v1).setCell ⟨X, 2, none⟩ v2).setCell ⟨X, 3, none⟩ v3).setCell ⟨X, 4, none⟩ v4).setCell ⟨X, 5, none⟩ v5).setCell ⟨X, 6, none⟩ v6).setCell ⟨X, 7, none⟩ v7).setCell ⟨X, 8, none⟩ v8) :=
  boxT2_setR hX hA hB (boxT2_setR hX hA hB (boxT2_setR hX hA hB (boxT2_setR hX hA hB (boxT2_setR hX hA hB (boxT2_setR hX hA hB (boxT2_setR hX hA hB (boxT2_setR hX hA hB (boxT2_setR hX hA hB h))))))))

set_option maxRecDepth 100000 in
set_option maxHeartbeats 2000000 in
theorem lStep2 (w : World) (v : Value) (t : Txn) (h : IsTxn w v t) (hv : Inv t) (r : AkV) (a : Ak) (ha : r.Is w a) (hfl : a.tbs.length ≤ 1000) :
    Calls Tryz.prog 12 #[.int .i64 2, v, .agg r.enc.toArray] w fun e w' => StepPost w (sCommit t a.tbs).1 (if (sCommit t a.tbs).2 = 0 then again (sCommit t a.tbs).1 else []) (sCommit t a.tbs).2 e w' := by
  have hX := fun (W : World) (hf : Fr N0 w W) bt vt (ht : Tbs W bt vt a.tbs) => xCommit_any W v t (h.fr0 hf) hv bt vt a.tbs ht ha.tbsOk hfl
  obtain ⟨i0, hi, hz0, hz1, hz2⟩ := info_parts infoTb
  obtain ⟨-, -, -, ⟨bt, hl⟩, -, -, -, -⟩ := ha
  obtain ⟨vw, vk, vn, vg, vl, rfl, h⟩ := h
  obtain ⟨⟨aw, cw, rfl⟩, ⟨ak, ck, rfl⟩, ⟨an, cn, rfl⟩, ⟨ag, cg, rfl⟩, ⟨al, cl, rfl⟩⟩ := h.shapes
  clear h
  obtain ⟨S, hS⟩ : ∃ S, sCommit t a.tbs = S := ⟨_, rfl⟩
  obtain ⟨O, hO⟩ : ∃ O, ((if (sCommit t a.tbs).2 = 0 then again (sCommit t a.tbs).1 else [] : List Out)) = O := ⟨_, rfl⟩
  rw [hO, hS]
  simp only [hO] at hX
  simp only [hS] at hX
  obtain ⟨L, hL⟩ : ∃ L, a.tbs = L := ⟨_, rfl⟩
  rw [hL] at hl hfl
  simp only [hL] at hX
  clear hS hL hO
  obtain ⟨⟨ac, af, am, tp, tg, tt, ta, tu⟩, rl, rw_, rt, rg, rc, rp⟩ := r
  unfold AkV.enc An.enc
  simp only [List.cons_append, List.nil_append] at hl ⊢
  have HX := Lib.hid hX; have HL := Lib.hid hl
  clear hX hl
  go_enter Tryz.func12, Tryz.ntmps12
  go_wp2
  obtain ⟨W0, hW0, hF0, hbt, hba, hbr⟩ := three w (.cells #[.int .u8 t.phase, .int .u64 t.start, .int .u64 t.commit, .slice aw t.writes.length cw, .slice ak t.keys.length ck, .slice an t.needs.length cn, .slice ag t.groups.length cg, .slice al t.left.length cl, .bool t.failed] 32) (.cells #[.int .i64 ac, .int .u64 af, .int .u64 am, .string tp, .int .u32 tg, .int .u32 tt, .int .u64 ta, .int .u64 tu, rl, rw_, rt, .int .u32 rg, .int .i64 rc, .string rp] 49) (.cells #[.int .u8 0, .int .u64 0, .int .u64 0, .slice none 0 0, .slice none 0 0, .slice none 0 0, .slice none 0 0, .slice none 0 0, .bool false] 32)
  rw [hW0]
  clear hW0
  obtain ⟨R, hR⟩ : ∃ R, w.heap.size + 1 + 1 = R := ⟨_, rfl⟩
  replace hbr : W0.heap[w.heap.size + 1 + 1]? = _ := hbr
  rw [hR] at hbr ⊢
  have hRw : w.heap.size ≤ R := by omega
  have hRA : w.heap.size ≠ R := by omega
  have hRB : w.heap.size + 1 ≠ R := by omega
  have HBT := Lib.hid hbt; have HBA := Lib.hid hba; have HBR := Lib.hid hbr
  clear hbt hba hbr
  have HT0 : Hid (BoxT2 w w.heap.size (w.heap.size + 1) #[.int .u8 t.phase, .int .u64 t.start, .int .u64 t.commit, .slice aw t.writes.length cw, .slice ak t.keys.length ck, .slice an t.needs.length cn, .slice ag t.groups.length cg, .slice al t.left.length cl, .bool t.failed] #[.int .i64 ac, .int .u64 af, .int .u64 am, .string tp, .int .u32 tg, .int .u32 tt, .int .u64 ta, .int .u64 tu, rl, rw_, rt, .int .u32 rg, .int .i64 rc, .string rp] W0) := ⟨(box_cells HBT.out).1, (box_cells HBA.out).1, ⟨(box_cells HBT.out).2.2, (box_cells HBA.out).2.2⟩, hF0⟩
  obtain ⟨mt0, nt0, lt0⟩ := box_cells HBT.out
  obtain ⟨ma0, na0, la0⟩ := box_cells HBA.out
  go_region_law (first
    | (refine step_append_rows rfl _ _ 47 rfl 0 43 i0 zeroTbV 5 40 Tryz.underlying47 hi hz0 hz1 hz2 rfl (by decide) (.slice none 0 0) 0 [] (by simp [Act.eval, Act.put]) (World.ownsRow_nil _ _ _ _) (enc := Tb.enc) (fun _ => rfl) tb_one bt _ L (by simp [Act.eval, Act.put]) (Tbs.fr0 HL.out (hF0.then0 (Fr.refl N0 W0).drew)) (by unfold maxLen; omega) (by omega) (by omega) ?_; intro vS wS hownS hgrowS; have hS1 := fr_new (Fr.refl N0 W0.drew) hgrowS; obtain ⟨aS, cS, bS, rfl, -, hrS⟩ := rows_one (enc := Tb.enc) (n := 5) (fun _ => rfl) (by decide) hownS; have HRS := Lib.hid hrS; have hS0 : Fr N0 W0 wS := (Fr.refl N0 W0).drew.then0 hS1; obtain ⟨mt1, nt1, lt1⟩ := box_cells (hS0.held _ HBT.out); obtain ⟨ma1, na1, la1⟩ := box_cells (hS0.held _ HBA.out); have HB0 : Hid (Fr N0 W0 wS) := hS0; clear hownS hgrowS hrS)
    | (go_simp; go_at_call 27; refine (HX.out _ (hF0.then0 HB0.out) _ _ HRS.out).mono ?_; rintro e w3 ⟨v3, vo, rfl, ⟨vw3, vk3, vn3, vg3, vl3, rfl, hT⟩, hO, hf3⟩; have hf30 : Fr N0 W0 w3 := HB0.out.then0 hf3; have hfw3 : Fr N0 w w3 := hF0.then0 hf30; have hbr := hf30.held R HBR.out; obtain ⟨m3, n3, l3⟩ := box_cells hbr; have HBR3 := Lib.hid hbr; obtain ⟨⟨aw3, cw3, rfl⟩, ⟨ak3, ck3, rfl⟩, ⟨an3, cn3, rfl⟩, ⟨ag3, cg3, rfl⟩, ⟨al3, cl3, rfl⟩⟩ := hT.shapes; have HT := Lib.hid hT; have HO3 := Lib.hid hO; clear hbr hT hO)
    | fail)
  all_goals
    have HF3 := Lib.hid hfw3
    clear hfw3
    go_wp2
    (try simp only [Exit.inBlock, Exit.then])
    refine bodyPost_ret_by (results_row3 rfl _ _ R 32 _ (0, 0) _ rfl (txn_box_set HBR3.out) rfl rfl Tryz.underlying32 rfl sizeTxn) rfl ?_
    exact (told_store (w := w) (by omega) HBR3.out (dull_txn _ _ _ _ _ _ _ _ _ _ _ _ _ _ _ _ _ _ _) ⟨_, _, _, _, _, rfl, HT.out⟩ HO3.out HF3.out).step

theorem lStep_any (k : Nat) (hk : k < 7) (w : World) (v : Value) (t : Txn) (h : IsTxn w v t) (hv : Inv t) (r : AkV) (a : Ak) (ha : r.Is w a) (hM : MaxAt w) (hl : a.l.length ≤ 1000) (hw : a.ws.length ≤ 1000) (hb : a.tbs.length ≤ 1000) :
    Calls Tryz.prog 12 #[.int .i64 k, v, .agg r.enc.toArray] w fun e w' => StepPost w (stepOf k t a).1 (outsOf k t a) (stepOf k t a).2 e w' := by
  obtain rfl | rfl | rfl | rfl | rfl | rfl | rfl : k = 0 ∨ k = 1 ∨ k = 2 ∨ k = 3 ∨ k = 4 ∨ k = 5 ∨ k = 6 := by omega
  · exact lStep0 w v t h hv r a ha
  · exact lStep1 w v t h hv r a ha hM hl hw
  · exact lStep2 w v t h hv r a ha hb
  · exact lStep3 w v t h hv r a ha
  · exact lStep4 w v t h hv r a ha
  · exact lStep5 w v t h hv r a ha
  · exact lStep6 w v t h hv r a ha
end Go.Proofs.YthidminepegnoaaGreatDoor
