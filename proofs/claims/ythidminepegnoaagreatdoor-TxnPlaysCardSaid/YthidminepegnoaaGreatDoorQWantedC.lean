/- The law's wanted: the document's steps by their numbers. The law's wanted: each number. -/
import Derived.Test.YthidminepegnoaaGreatDoorQStepS
import Derived.Test.YthidminepegnoaaGreatDoorQRSteps
import Derived.Test.YthidminepegnoaaGreatDoorQRSteps2
import Derived.Test.YthidminepegnoaaGreatDoorQPWrite
import Derived.Test.YthidminepegnoaaGreatDoorQRCommit
import Derived.Test.YthidminepegnoaaGreatDoorQRAgain3
import Derived.Test.YthidminepegnoaaGreatDoorQPStaged
import Derived.Test.YthidminepegnoaaGreatDoorQWanted
namespace Go.Proofs.YthidminepegnoaaGreatDoor
open Go.RowKit Go.Shelf Go.Maps Go.Sort
attribute [local go_sem] Oper.semAt_some
attribute [local irreducible] wpQuiet
set_option linter.unusedVariables false
set_option linter.unusedSimpArgs false

set_option maxRecDepth 100000 in
set_option maxHeartbeats 4000000 in
theorem lWant4b (w : World) (v : Value) (t : Txn) (h : IsTxn w v t) (hv : Inv t) (r : AkV) (a : Ak) (ha : r.Is w a)  (hc : (sDecided t a.an).2 = 0)  :
    Calls Tryz.prog 13 #[.int .i64 4, v, .agg r.enc.toArray] w fun e w' => StepPost w (sDecided t a.an).1 (again (sDecided t a.an).1) 0 e w' := by
  have hX := fun (W : World) (hf : Fr N0 w W) => rDecided_any W v t (h.fr0 hf) hv a.an
  have hinv : Inv (sDecided t a.an).1 := inv_decided hv ha.anOk.2 hc
  have hA := fun (W : World) v (hq : IsTxn W v (sDecided t a.an).1) => rAgain_any W v _ hq hinv
  clear hinv
  obtain ⟨⟨e1, e2, e3, e4⟩, -, -, -, -, -, -, -⟩ := ha
  obtain ⟨vw, vk, vn, vg, vl, rfl, h⟩ := h
  obtain ⟨⟨aw, cw, rfl⟩, ⟨ak, ck, rfl⟩, ⟨an, cn, rfl⟩, ⟨ag, cg, rfl⟩, ⟨al, cl, rfl⟩⟩ := h.shapes
  clear h
  obtain ⟨S, hS⟩ : ∃ S, (sDecided t a.an) = S := ⟨_, rfl⟩
  rw [hS] at hc  ⊢
  simp only [hS] at hX hA
  obtain ⟨T, c⟩ := S
  simp only at hX hA hc  ⊢
  subst hc
  try simp only [← e1, ← e2, ← e3] at hX
  clear hS e1 e2 e3 e4
  obtain ⟨⟨ac, af, am, tp, tg, tt, ta, tu⟩, rl, rw_, rt, rg, rc, rp⟩ := r
  unfold AkV.enc An.enc
  try unfold An.enc at hX
  simp only [List.cons_append, List.nil_append] at hX ⊢
  have HX := Lib.hid hX; have HA := Lib.hid hA
  clear hX hA
  go_enter Tryz.func13, Tryz.ntmps13
  go_wp2_with (go_at_call 40; go_loud (refine (HX.out _ (by repeat (first | exact Fr.refl _ _ | assumption | refine Fr.alloc ?_ _ | refine Fr.drew ?_ | refine Fr.drewN ?_ _ | refine Fr.setCell ?_ (.inr (by simp; try omega)) _))).mono ?_); rintro e w1 ⟨v1, rfl, ⟨vw1, vk1, vn1, vg1, vl1, rfl, hT⟩, hf1⟩; have hbr := hf1.held (w.heap.size + 2) (blk0 (blkN (by simp))); obtain ⟨m2, n2, l2⟩ := box_cells hbr; have HBR := Lib.hid hbr; have hbx := hf1.held (w.heap.size + 3) (blkN (by simp)); obtain ⟨m3, n3, l3⟩ := box_cells hbx; have HBX := Lib.hid hbx; obtain ⟨⟨aw1, cw1, rfl⟩, ⟨ak1, ck1, rfl⟩, ⟨an1, cn1, rfl⟩, ⟨ag1, cg1, rfl⟩, ⟨al1, cl1, rfl⟩⟩ := hT.shapes; have HT := Lib.hid hT; clear hbr hbx hT)
  have hF1 : Fr N0 w w1 := (((((Fr.refl N0 w).alloc _).alloc _).alloc _).alloc _).then0 hf1
  have hfx := txn_box_fr (B := w.heap.size + 1 + 1 + 1) (v0 := .int .u8 T.phase) (v1 := .int .u64 T.start) (v2 := .int .u64 T.commit) (v3 := .slice aw1 T.writes.length cw1) (v4 := .slice ak1 T.keys.length ck1) (v5 := .slice an1 T.needs.length cn1) (v6 := .slice ag1 T.groups.length cg1) (v7 := .slice al1 T.left.length cl1) (v8 := .bool T.failed) (Fr.refl (fun k => k = w.heap.size + 1 + 1 + 1) w1) (.inl rfl)
  have hz := (hfx.at (k := w.heap.size + 2) (by show ¬ w.heap.size + 2 = w.heap.size + 1 + 1 + 1; omega) (lt_of_block HBR.out)).trans HBR.out
  have ht : ((((((((((w1.setCell ⟨w.heap.size + 1 + 1 + 1, 0, none⟩ (.int .u8 T.phase)).setCell ⟨w.heap.size + 1 + 1 + 1, 1, none⟩ (.int .u64 T.start)).setCell ⟨w.heap.size + 1 + 1 + 1, 2, none⟩ (.int .u64 T.commit)).setCell ⟨w.heap.size + 1 + 1 + 1, 3, none⟩ (.slice aw1 T.writes.length cw1)).setCell ⟨w.heap.size + 1 + 1 + 1, 4, none⟩ (.slice ak1 T.keys.length ck1)).setCell ⟨w.heap.size + 1 + 1 + 1, 5, none⟩ (.slice an1 T.needs.length cn1)).setCell ⟨w.heap.size + 1 + 1 + 1, 6, none⟩ (.slice ag1 T.groups.length cg1)).setCell ⟨w.heap.size + 1 + 1 + 1, 7, none⟩ (.slice al1 T.left.length cl1)).setCell ⟨w.heap.size + 1 + 1 + 1, 8, none⟩ (.bool T.failed))).heap[w.heap.size + 1 + 1 + 1]? = _ := txn_box_set HBX.out
  have hT : IsTxn ((((((((((w1.setCell ⟨w.heap.size + 1 + 1 + 1, 0, none⟩ (.int .u8 T.phase)).setCell ⟨w.heap.size + 1 + 1 + 1, 1, none⟩ (.int .u64 T.start)).setCell ⟨w.heap.size + 1 + 1 + 1, 2, none⟩ (.int .u64 T.commit)).setCell ⟨w.heap.size + 1 + 1 + 1, 3, none⟩ (.slice aw1 T.writes.length cw1)).setCell ⟨w.heap.size + 1 + 1 + 1, 4, none⟩ (.slice ak1 T.keys.length ck1)).setCell ⟨w.heap.size + 1 + 1 + 1, 5, none⟩ (.slice an1 T.needs.length cn1)).setCell ⟨w.heap.size + 1 + 1 + 1, 6, none⟩ (.slice ag1 T.groups.length cg1)).setCell ⟨w.heap.size + 1 + 1 + 1, 7, none⟩ (.slice al1 T.left.length cl1)).setCell ⟨w.heap.size + 1 + 1 + 1, 8, none⟩ (.bool T.failed))) (.agg #[.int .u8 T.phase, .int .u64 T.start, .int .u64 T.commit, .slice aw1 T.writes.length cw1, .slice ak1 T.keys.length ck1, .slice an1 T.needs.length cn1, .slice ag1 T.groups.length cg1, .slice al1 T.left.length cl1, .bool T.failed]) T := ⟨_, _, _, _, _, rfl, HT.out.past HBX.out (dull_txn _ _ _ _ _ _ _ _ _ _ _ _ _ _ _ _ _ _ _) hfx⟩
  have hf0 : Fr N0 w ((((((((((w1.setCell ⟨w.heap.size + 1 + 1 + 1, 0, none⟩ (.int .u8 T.phase)).setCell ⟨w.heap.size + 1 + 1 + 1, 1, none⟩ (.int .u64 T.start)).setCell ⟨w.heap.size + 1 + 1 + 1, 2, none⟩ (.int .u64 T.commit)).setCell ⟨w.heap.size + 1 + 1 + 1, 3, none⟩ (.slice aw1 T.writes.length cw1)).setCell ⟨w.heap.size + 1 + 1 + 1, 4, none⟩ (.slice ak1 T.keys.length ck1)).setCell ⟨w.heap.size + 1 + 1 + 1, 5, none⟩ (.slice an1 T.needs.length cn1)).setCell ⟨w.heap.size + 1 + 1 + 1, 6, none⟩ (.slice ag1 T.groups.length cg1)).setCell ⟨w.heap.size + 1 + 1 + 1, 7, none⟩ (.slice al1 T.left.length cl1)).setCell ⟨w.heap.size + 1 + 1 + 1, 8, none⟩ (.bool T.failed))) := hF1.trans hfx fun k hk => .inr (by rw [show k = w.heap.size + 1 + 1 + 1 from hk]; omega)
  obtain ⟨W0, hW0⟩ : ∃ W, ((((((((((w1.setCell ⟨w.heap.size + 1 + 1 + 1, 0, none⟩ (.int .u8 T.phase)).setCell ⟨w.heap.size + 1 + 1 + 1, 1, none⟩ (.int .u64 T.start)).setCell ⟨w.heap.size + 1 + 1 + 1, 2, none⟩ (.int .u64 T.commit)).setCell ⟨w.heap.size + 1 + 1 + 1, 3, none⟩ (.slice aw1 T.writes.length cw1)).setCell ⟨w.heap.size + 1 + 1 + 1, 4, none⟩ (.slice ak1 T.keys.length ck1)).setCell ⟨w.heap.size + 1 + 1 + 1, 5, none⟩ (.slice an1 T.needs.length cn1)).setCell ⟨w.heap.size + 1 + 1 + 1, 6, none⟩ (.slice ag1 T.groups.length cg1)).setCell ⟨w.heap.size + 1 + 1 + 1, 7, none⟩ (.slice al1 T.left.length cl1)).setCell ⟨w.heap.size + 1 + 1 + 1, 8, none⟩ (.bool T.failed))) = W := ⟨_, rfl⟩
  rw [hW0] at hz ht hT hf0 ⊢
  clear hW0 hfx HBX HBR HT m2 n2 l2 m3 n3 l3 hF1 hf1 HX
  clear w1
  obtain ⟨m0, n0, l0⟩ := box_cells hz
  obtain ⟨m1, n1, l1⟩ := box_cells ht
  have HZ := Lib.hid hz; have HX := Lib.hid ht; have HT := Lib.hid hT
  clear hz ht hT
  refine Code.wp_mono (Q := Exit.then (Back w (w.heap.size + 2) 6 7 8 #[.int .u8 T.phase, .int .u64 T.start, .int .u64 T.commit, .slice aw1 T.writes.length cw1, .slice ak1 T.keys.length ck1, .slice an1 T.needs.length cn1, .slice ag1 T.groups.length cg1, .slice al1 T.left.length cl1, .bool T.failed] T (again T) 0) (fun _ _ _ => False)) ?_ ?_
  case refine_2 =>
    go_region_with (go_at_call 10; go_loud (refine (HA.out _ _ (HT.out.fr0 (Fr.refl _ _).drew)).mono ?_); rintro e w3 ⟨vo, rfl, ho, hf3⟩; have hz1 := hf3.held (w.heap.size + 2) HZ.out; obtain ⟨p0, q0, k0⟩ := box_cells hz1; have ht1 := hf3.held (w.heap.size + 1 + 1 + 1) HX.out; obtain ⟨p1, q1, k1⟩ := box_cells ht1)
    all_goals exact ⟨vo, rfl, rfl, rfl, rfl, told_store (by omega) hz1 (dull_txn _ _ _ _ _ _ _ _ _ _ _ _ _ _ _ _ _ _ _) (HT.out.fr0 ((Fr.refl _ _).drew.then0 hf3)) ho (hf0.drew.then0 hf3)⟩
  intro e a' W hM
  cases e
  case' normal => skip
  all_goals (try exact (hM : False).elim)
  obtain ⟨vo, d1, d2, d3, d4, hM⟩ := hM
  clear HZ HX HT m0 n0 m1 n1 l0 l1 HA
  go_wp2
  (try simp only [Exit.inBlock, Exit.then])
  exact bodyPost_ret_by (results_row3 rfl _ _ (w.heap.size + 2) 32 _ (0, 0) _ d2 hM.1 d3 d4 Tryz.underlying32 rfl sizeTxn) d1 hM.step

set_option maxRecDepth 100000 in
set_option maxHeartbeats 4000000 in
theorem lWant6b (w : World) (v : Value) (t : Txn) (h : IsTxn w v t) (hv : Inv t) (r : AkV) (a : Ak) (ha : r.Is w a)  (hc : (sGive t).2 = 0)  :
    Calls Tryz.prog 13 #[.int .i64 6, v, .agg r.enc.toArray] w fun e w' => StepPost w (sGive t).1 (again (sGive t).1) 0 e w' := by
  have hX := fun (W : World) (hf : Fr N0 w W) => rGive_any W v t (h.fr0 hf) hv
  have hinv : Inv (sGive t).1 := inv_give hv hc
  have hA := fun (W : World) v (hq : IsTxn W v (sGive t).1) => rAgain_any W v _ hq hinv
  clear hinv
  obtain ⟨⟨e1, e2, e3, e4⟩, -, -, -, -, -, -, -⟩ := ha
  obtain ⟨vw, vk, vn, vg, vl, rfl, h⟩ := h
  obtain ⟨⟨aw, cw, rfl⟩, ⟨ak, ck, rfl⟩, ⟨an, cn, rfl⟩, ⟨ag, cg, rfl⟩, ⟨al, cl, rfl⟩⟩ := h.shapes
  clear h
  obtain ⟨S, hS⟩ : ∃ S, (sGive t) = S := ⟨_, rfl⟩
  rw [hS] at hc  ⊢
  simp only [hS] at hX hA
  obtain ⟨T, c⟩ := S
  simp only at hX hA hc  ⊢
  subst hc
  try simp only [← e1, ← e2, ← e3] at hX
  clear hS e1 e2 e3 e4
  obtain ⟨⟨ac, af, am, tp, tg, tt, ta, tu⟩, rl, rw_, rt, rg, rc, rp⟩ := r
  unfold AkV.enc An.enc
  try unfold An.enc at hX
  simp only [List.cons_append, List.nil_append] at hX ⊢
  have HX := Lib.hid hX; have HA := Lib.hid hA
  clear hX hA
  go_enter Tryz.func13, Tryz.ntmps13
  go_wp2_with (go_at_call 42; go_loud (refine (HX.out _ (by repeat (first | exact Fr.refl _ _ | assumption | refine Fr.alloc ?_ _ | refine Fr.drew ?_ | refine Fr.drewN ?_ _ | refine Fr.setCell ?_ (.inr (by simp; try omega)) _))).mono ?_); rintro e w1 ⟨v1, rfl, ⟨vw1, vk1, vn1, vg1, vl1, rfl, hT⟩, hf1⟩; have hbr := hf1.held (w.heap.size + 2) (blk0 (blkN (by simp))); obtain ⟨m2, n2, l2⟩ := box_cells hbr; have HBR := Lib.hid hbr; have hbx := hf1.held (w.heap.size + 3) (blkN (by simp)); obtain ⟨m3, n3, l3⟩ := box_cells hbx; have HBX := Lib.hid hbx; obtain ⟨⟨aw1, cw1, rfl⟩, ⟨ak1, ck1, rfl⟩, ⟨an1, cn1, rfl⟩, ⟨ag1, cg1, rfl⟩, ⟨al1, cl1, rfl⟩⟩ := hT.shapes; have HT := Lib.hid hT; clear hbr hbx hT)
  have hF1 : Fr N0 w w1 := (((((Fr.refl N0 w).alloc _).alloc _).alloc _).alloc _).then0 hf1
  have hfx := txn_box_fr (B := w.heap.size + 1 + 1 + 1) (v0 := .int .u8 T.phase) (v1 := .int .u64 T.start) (v2 := .int .u64 T.commit) (v3 := .slice aw1 T.writes.length cw1) (v4 := .slice ak1 T.keys.length ck1) (v5 := .slice an1 T.needs.length cn1) (v6 := .slice ag1 T.groups.length cg1) (v7 := .slice al1 T.left.length cl1) (v8 := .bool T.failed) (Fr.refl (fun k => k = w.heap.size + 1 + 1 + 1) w1) (.inl rfl)
  have hz := (hfx.at (k := w.heap.size + 2) (by show ¬ w.heap.size + 2 = w.heap.size + 1 + 1 + 1; omega) (lt_of_block HBR.out)).trans HBR.out
  have ht : ((((((((((w1.setCell ⟨w.heap.size + 1 + 1 + 1, 0, none⟩ (.int .u8 T.phase)).setCell ⟨w.heap.size + 1 + 1 + 1, 1, none⟩ (.int .u64 T.start)).setCell ⟨w.heap.size + 1 + 1 + 1, 2, none⟩ (.int .u64 T.commit)).setCell ⟨w.heap.size + 1 + 1 + 1, 3, none⟩ (.slice aw1 T.writes.length cw1)).setCell ⟨w.heap.size + 1 + 1 + 1, 4, none⟩ (.slice ak1 T.keys.length ck1)).setCell ⟨w.heap.size + 1 + 1 + 1, 5, none⟩ (.slice an1 T.needs.length cn1)).setCell ⟨w.heap.size + 1 + 1 + 1, 6, none⟩ (.slice ag1 T.groups.length cg1)).setCell ⟨w.heap.size + 1 + 1 + 1, 7, none⟩ (.slice al1 T.left.length cl1)).setCell ⟨w.heap.size + 1 + 1 + 1, 8, none⟩ (.bool T.failed))).heap[w.heap.size + 1 + 1 + 1]? = _ := txn_box_set HBX.out
  have hT : IsTxn ((((((((((w1.setCell ⟨w.heap.size + 1 + 1 + 1, 0, none⟩ (.int .u8 T.phase)).setCell ⟨w.heap.size + 1 + 1 + 1, 1, none⟩ (.int .u64 T.start)).setCell ⟨w.heap.size + 1 + 1 + 1, 2, none⟩ (.int .u64 T.commit)).setCell ⟨w.heap.size + 1 + 1 + 1, 3, none⟩ (.slice aw1 T.writes.length cw1)).setCell ⟨w.heap.size + 1 + 1 + 1, 4, none⟩ (.slice ak1 T.keys.length ck1)).setCell ⟨w.heap.size + 1 + 1 + 1, 5, none⟩ (.slice an1 T.needs.length cn1)).setCell ⟨w.heap.size + 1 + 1 + 1, 6, none⟩ (.slice ag1 T.groups.length cg1)).setCell ⟨w.heap.size + 1 + 1 + 1, 7, none⟩ (.slice al1 T.left.length cl1)).setCell ⟨w.heap.size + 1 + 1 + 1, 8, none⟩ (.bool T.failed))) (.agg #[.int .u8 T.phase, .int .u64 T.start, .int .u64 T.commit, .slice aw1 T.writes.length cw1, .slice ak1 T.keys.length ck1, .slice an1 T.needs.length cn1, .slice ag1 T.groups.length cg1, .slice al1 T.left.length cl1, .bool T.failed]) T := ⟨_, _, _, _, _, rfl, HT.out.past HBX.out (dull_txn _ _ _ _ _ _ _ _ _ _ _ _ _ _ _ _ _ _ _) hfx⟩
  have hf0 : Fr N0 w ((((((((((w1.setCell ⟨w.heap.size + 1 + 1 + 1, 0, none⟩ (.int .u8 T.phase)).setCell ⟨w.heap.size + 1 + 1 + 1, 1, none⟩ (.int .u64 T.start)).setCell ⟨w.heap.size + 1 + 1 + 1, 2, none⟩ (.int .u64 T.commit)).setCell ⟨w.heap.size + 1 + 1 + 1, 3, none⟩ (.slice aw1 T.writes.length cw1)).setCell ⟨w.heap.size + 1 + 1 + 1, 4, none⟩ (.slice ak1 T.keys.length ck1)).setCell ⟨w.heap.size + 1 + 1 + 1, 5, none⟩ (.slice an1 T.needs.length cn1)).setCell ⟨w.heap.size + 1 + 1 + 1, 6, none⟩ (.slice ag1 T.groups.length cg1)).setCell ⟨w.heap.size + 1 + 1 + 1, 7, none⟩ (.slice al1 T.left.length cl1)).setCell ⟨w.heap.size + 1 + 1 + 1, 8, none⟩ (.bool T.failed))) := hF1.trans hfx fun k hk => .inr (by rw [show k = w.heap.size + 1 + 1 + 1 from hk]; omega)
  obtain ⟨W0, hW0⟩ : ∃ W, ((((((((((w1.setCell ⟨w.heap.size + 1 + 1 + 1, 0, none⟩ (.int .u8 T.phase)).setCell ⟨w.heap.size + 1 + 1 + 1, 1, none⟩ (.int .u64 T.start)).setCell ⟨w.heap.size + 1 + 1 + 1, 2, none⟩ (.int .u64 T.commit)).setCell ⟨w.heap.size + 1 + 1 + 1, 3, none⟩ (.slice aw1 T.writes.length cw1)).setCell ⟨w.heap.size + 1 + 1 + 1, 4, none⟩ (.slice ak1 T.keys.length ck1)).setCell ⟨w.heap.size + 1 + 1 + 1, 5, none⟩ (.slice an1 T.needs.length cn1)).setCell ⟨w.heap.size + 1 + 1 + 1, 6, none⟩ (.slice ag1 T.groups.length cg1)).setCell ⟨w.heap.size + 1 + 1 + 1, 7, none⟩ (.slice al1 T.left.length cl1)).setCell ⟨w.heap.size + 1 + 1 + 1, 8, none⟩ (.bool T.failed))) = W := ⟨_, rfl⟩
  rw [hW0] at hz ht hT hf0 ⊢
  clear hW0 hfx HBX HBR HT m2 n2 l2 m3 n3 l3 hF1 hf1 HX
  clear w1
  obtain ⟨m0, n0, l0⟩ := box_cells hz
  obtain ⟨m1, n1, l1⟩ := box_cells ht
  have HZ := Lib.hid hz; have HX := Lib.hid ht; have HT := Lib.hid hT
  clear hz ht hT
  refine Code.wp_mono (Q := Exit.then (Back w (w.heap.size + 2) 6 7 8 #[.int .u8 T.phase, .int .u64 T.start, .int .u64 T.commit, .slice aw1 T.writes.length cw1, .slice ak1 T.keys.length ck1, .slice an1 T.needs.length cn1, .slice ag1 T.groups.length cg1, .slice al1 T.left.length cl1, .bool T.failed] T (again T) 0) (fun _ _ _ => False)) ?_ ?_
  case refine_2 =>
    go_region_with (go_at_call 10; go_loud (refine (HA.out _ _ (HT.out.fr0 (Fr.refl _ _).drew)).mono ?_); rintro e w3 ⟨vo, rfl, ho, hf3⟩; have hz1 := hf3.held (w.heap.size + 2) HZ.out; obtain ⟨p0, q0, k0⟩ := box_cells hz1; have ht1 := hf3.held (w.heap.size + 1 + 1 + 1) HX.out; obtain ⟨p1, q1, k1⟩ := box_cells ht1)
    all_goals exact ⟨vo, rfl, rfl, rfl, rfl, told_store (by omega) hz1 (dull_txn _ _ _ _ _ _ _ _ _ _ _ _ _ _ _ _ _ _ _) (HT.out.fr0 ((Fr.refl _ _).drew.then0 hf3)) ho (hf0.drew.then0 hf3)⟩
  intro e a' W hM
  cases e
  case' normal => skip
  all_goals (try exact (hM : False).elim)
  obtain ⟨vo, d1, d2, d3, d4, hM⟩ := hM
  clear HZ HX HT m0 n0 m1 n1 l0 l1 HA
  go_wp2
  (try simp only [Exit.inBlock, Exit.then])
  exact bodyPost_ret_by (results_row3 rfl _ _ (w.heap.size + 2) 32 _ (0, 0) _ d2 hM.1 d3 d4 Tryz.underlying32 rfl sizeTxn) d1 hM.step

set_option maxRecDepth 100000 in
set_option maxHeartbeats 4000000 in
theorem lWant2b (w : World) (v : Value) (t : Txn) (h : IsTxn w v t) (hv : Inv t) (r : AkV) (a : Ak) (ha : r.Is w a) (hfl : a.tbs.length ≤ 1000) (hc : (sCommit t a.tbs).2 = 0)  :
    Calls Tryz.prog 13 #[.int .i64 2, v, .agg r.enc.toArray] w fun e w' => StepPost w (sCommit t a.tbs).1 (again (sCommit t a.tbs).1) 0 e w' := by
  have hX := fun (W : World) (hf : Fr N0 w W) => rCommit_any W v t (h.fr0 hf) hv ha.tbs.choose r.vt a.tbs (ha.tbs.choose_spec.fr0 hf) ha.tbsOk hfl
  have hinv : Inv (sCommit t a.tbs).1 := inv_commit hv ha.tbsOk hc
  have hA := fun (W : World) v (hq : IsTxn W v (sCommit t a.tbs).1) => rAgain_any W v _ hq hinv
  clear hinv
  obtain ⟨⟨e1, e2, e3, e4⟩, -, -, -, -, -, -, -⟩ := ha
  obtain ⟨vw, vk, vn, vg, vl, rfl, h⟩ := h
  obtain ⟨⟨aw, cw, rfl⟩, ⟨ak, ck, rfl⟩, ⟨an, cn, rfl⟩, ⟨ag, cg, rfl⟩, ⟨al, cl, rfl⟩⟩ := h.shapes
  clear h
  obtain ⟨S, hS⟩ : ∃ S, (sCommit t a.tbs) = S := ⟨_, rfl⟩
  rw [hS] at hc  ⊢
  simp only [hS] at hX hA
  obtain ⟨T, c⟩ := S
  simp only at hX hA hc  ⊢
  subst hc
  try simp only [← e1, ← e2, ← e3] at hX
  clear hS e1 e2 e3 e4
  obtain ⟨⟨ac, af, am, tp, tg, tt, ta, tu⟩, rl, rw_, rt, rg, rc, rp⟩ := r
  unfold AkV.enc An.enc
  try unfold An.enc at hX
  simp only [List.cons_append, List.nil_append] at hX ⊢
  have HX := Lib.hid hX; have HA := Lib.hid hA
  clear hX hA
  go_enter Tryz.func13, Tryz.ntmps13
  go_wp2_with (go_at_call 38; go_loud (refine (HX.out _ (by repeat (first | exact Fr.refl _ _ | assumption | refine Fr.alloc ?_ _ | refine Fr.drew ?_ | refine Fr.drewN ?_ _ | refine Fr.setCell ?_ (.inr (by simp; try omega)) _))).mono ?_); rintro e w1 ⟨v1, rfl, ⟨vw1, vk1, vn1, vg1, vl1, rfl, hT⟩, hf1⟩; have hbr := hf1.held (w.heap.size + 2) (blk0 (blkN (by simp))); obtain ⟨m2, n2, l2⟩ := box_cells hbr; have HBR := Lib.hid hbr; have hbx := hf1.held (w.heap.size + 3) (blkN (by simp)); obtain ⟨m3, n3, l3⟩ := box_cells hbx; have HBX := Lib.hid hbx; obtain ⟨⟨aw1, cw1, rfl⟩, ⟨ak1, ck1, rfl⟩, ⟨an1, cn1, rfl⟩, ⟨ag1, cg1, rfl⟩, ⟨al1, cl1, rfl⟩⟩ := hT.shapes; have HT := Lib.hid hT; clear hbr hbx hT)
  have hF1 : Fr N0 w w1 := (((((Fr.refl N0 w).alloc _).alloc _).alloc _).alloc _).then0 hf1
  have hfx := txn_box_fr (B := w.heap.size + 1 + 1 + 1) (v0 := .int .u8 T.phase) (v1 := .int .u64 T.start) (v2 := .int .u64 T.commit) (v3 := .slice aw1 T.writes.length cw1) (v4 := .slice ak1 T.keys.length ck1) (v5 := .slice an1 T.needs.length cn1) (v6 := .slice ag1 T.groups.length cg1) (v7 := .slice al1 T.left.length cl1) (v8 := .bool T.failed) (Fr.refl (fun k => k = w.heap.size + 1 + 1 + 1) w1) (.inl rfl)
  have hz := (hfx.at (k := w.heap.size + 2) (by show ¬ w.heap.size + 2 = w.heap.size + 1 + 1 + 1; omega) (lt_of_block HBR.out)).trans HBR.out
  have ht : ((((((((((w1.setCell ⟨w.heap.size + 1 + 1 + 1, 0, none⟩ (.int .u8 T.phase)).setCell ⟨w.heap.size + 1 + 1 + 1, 1, none⟩ (.int .u64 T.start)).setCell ⟨w.heap.size + 1 + 1 + 1, 2, none⟩ (.int .u64 T.commit)).setCell ⟨w.heap.size + 1 + 1 + 1, 3, none⟩ (.slice aw1 T.writes.length cw1)).setCell ⟨w.heap.size + 1 + 1 + 1, 4, none⟩ (.slice ak1 T.keys.length ck1)).setCell ⟨w.heap.size + 1 + 1 + 1, 5, none⟩ (.slice an1 T.needs.length cn1)).setCell ⟨w.heap.size + 1 + 1 + 1, 6, none⟩ (.slice ag1 T.groups.length cg1)).setCell ⟨w.heap.size + 1 + 1 + 1, 7, none⟩ (.slice al1 T.left.length cl1)).setCell ⟨w.heap.size + 1 + 1 + 1, 8, none⟩ (.bool T.failed))).heap[w.heap.size + 1 + 1 + 1]? = _ := txn_box_set HBX.out
  have hT : IsTxn ((((((((((w1.setCell ⟨w.heap.size + 1 + 1 + 1, 0, none⟩ (.int .u8 T.phase)).setCell ⟨w.heap.size + 1 + 1 + 1, 1, none⟩ (.int .u64 T.start)).setCell ⟨w.heap.size + 1 + 1 + 1, 2, none⟩ (.int .u64 T.commit)).setCell ⟨w.heap.size + 1 + 1 + 1, 3, none⟩ (.slice aw1 T.writes.length cw1)).setCell ⟨w.heap.size + 1 + 1 + 1, 4, none⟩ (.slice ak1 T.keys.length ck1)).setCell ⟨w.heap.size + 1 + 1 + 1, 5, none⟩ (.slice an1 T.needs.length cn1)).setCell ⟨w.heap.size + 1 + 1 + 1, 6, none⟩ (.slice ag1 T.groups.length cg1)).setCell ⟨w.heap.size + 1 + 1 + 1, 7, none⟩ (.slice al1 T.left.length cl1)).setCell ⟨w.heap.size + 1 + 1 + 1, 8, none⟩ (.bool T.failed))) (.agg #[.int .u8 T.phase, .int .u64 T.start, .int .u64 T.commit, .slice aw1 T.writes.length cw1, .slice ak1 T.keys.length ck1, .slice an1 T.needs.length cn1, .slice ag1 T.groups.length cg1, .slice al1 T.left.length cl1, .bool T.failed]) T := ⟨_, _, _, _, _, rfl, HT.out.past HBX.out (dull_txn _ _ _ _ _ _ _ _ _ _ _ _ _ _ _ _ _ _ _) hfx⟩
  have hf0 : Fr N0 w ((((((((((w1.setCell ⟨w.heap.size + 1 + 1 + 1, 0, none⟩ (.int .u8 T.phase)).setCell ⟨w.heap.size + 1 + 1 + 1, 1, none⟩ (.int .u64 T.start)).setCell ⟨w.heap.size + 1 + 1 + 1, 2, none⟩ (.int .u64 T.commit)).setCell ⟨w.heap.size + 1 + 1 + 1, 3, none⟩ (.slice aw1 T.writes.length cw1)).setCell ⟨w.heap.size + 1 + 1 + 1, 4, none⟩ (.slice ak1 T.keys.length ck1)).setCell ⟨w.heap.size + 1 + 1 + 1, 5, none⟩ (.slice an1 T.needs.length cn1)).setCell ⟨w.heap.size + 1 + 1 + 1, 6, none⟩ (.slice ag1 T.groups.length cg1)).setCell ⟨w.heap.size + 1 + 1 + 1, 7, none⟩ (.slice al1 T.left.length cl1)).setCell ⟨w.heap.size + 1 + 1 + 1, 8, none⟩ (.bool T.failed))) := hF1.trans hfx fun k hk => .inr (by rw [show k = w.heap.size + 1 + 1 + 1 from hk]; omega)
  obtain ⟨W0, hW0⟩ : ∃ W, ((((((((((w1.setCell ⟨w.heap.size + 1 + 1 + 1, 0, none⟩ (.int .u8 T.phase)).setCell ⟨w.heap.size + 1 + 1 + 1, 1, none⟩ (.int .u64 T.start)).setCell ⟨w.heap.size + 1 + 1 + 1, 2, none⟩ (.int .u64 T.commit)).setCell ⟨w.heap.size + 1 + 1 + 1, 3, none⟩ (.slice aw1 T.writes.length cw1)).setCell ⟨w.heap.size + 1 + 1 + 1, 4, none⟩ (.slice ak1 T.keys.length ck1)).setCell ⟨w.heap.size + 1 + 1 + 1, 5, none⟩ (.slice an1 T.needs.length cn1)).setCell ⟨w.heap.size + 1 + 1 + 1, 6, none⟩ (.slice ag1 T.groups.length cg1)).setCell ⟨w.heap.size + 1 + 1 + 1, 7, none⟩ (.slice al1 T.left.length cl1)).setCell ⟨w.heap.size + 1 + 1 + 1, 8, none⟩ (.bool T.failed))) = W := ⟨_, rfl⟩
  rw [hW0] at hz ht hT hf0 ⊢
  clear hW0 hfx HBX HBR HT m2 n2 l2 m3 n3 l3 hF1 hf1 HX
  clear w1
  obtain ⟨m0, n0, l0⟩ := box_cells hz
  obtain ⟨m1, n1, l1⟩ := box_cells ht
  have HZ := Lib.hid hz; have HX := Lib.hid ht; have HT := Lib.hid hT
  clear hz ht hT
  refine Code.wp_mono (Q := Exit.then (Back w (w.heap.size + 2) 6 7 8 #[.int .u8 T.phase, .int .u64 T.start, .int .u64 T.commit, .slice aw1 T.writes.length cw1, .slice ak1 T.keys.length ck1, .slice an1 T.needs.length cn1, .slice ag1 T.groups.length cg1, .slice al1 T.left.length cl1, .bool T.failed] T (again T) 0) (fun _ _ _ => False)) ?_ ?_
  case refine_2 =>
    go_region_with (go_at_call 10; go_loud (refine (HA.out _ _ (HT.out.fr0 (Fr.refl _ _).drew)).mono ?_); rintro e w3 ⟨vo, rfl, ho, hf3⟩; have hz1 := hf3.held (w.heap.size + 2) HZ.out; obtain ⟨p0, q0, k0⟩ := box_cells hz1; have ht1 := hf3.held (w.heap.size + 1 + 1 + 1) HX.out; obtain ⟨p1, q1, k1⟩ := box_cells ht1)
    all_goals exact ⟨vo, rfl, rfl, rfl, rfl, told_store (by omega) hz1 (dull_txn _ _ _ _ _ _ _ _ _ _ _ _ _ _ _ _ _ _ _) (HT.out.fr0 ((Fr.refl _ _).drew.then0 hf3)) ho (hf0.drew.then0 hf3)⟩
  intro e a' W hM
  cases e
  case' normal => skip
  all_goals (try exact (hM : False).elim)
  obtain ⟨vo, d1, d2, d3, d4, hM⟩ := hM
  clear HZ HX HT m0 n0 m1 n1 l0 l1 HA
  go_wp2
  (try simp only [Exit.inBlock, Exit.then])
  exact bodyPost_ret_by (results_row3 rfl _ _ (w.heap.size + 2) 32 _ (0, 0) _ d2 hM.1 d3 d4 Tryz.underlying32 rfl sizeTxn) d1 hM.step

set_option maxRecDepth 100000 in
set_option maxHeartbeats 4000000 in
theorem lWant3b (w : World) (v : Value) (t : Txn) (h : IsTxn w v t) (hv : Inv t) (r : AkV) (a : Ak) (ha : r.Is w a)  (hc : (sStaged t a.group a.code).2 = 0) (hp4 : ((sStaged t a.group a.code).1.phase == 4) = true) :
    Calls Tryz.prog 13 #[.int .i64 3, v, .agg r.enc.toArray] w fun e w' => StepPost w (sStaged t a.group a.code).1 (again (sStaged t a.group a.code).1) 0 e w' := by
  have hX := fun (W : World) (hf : Fr N0 w W) => rStaged_any W v t (h.fr0 hf) hv a.group a.code
  have hinv : Inv (sStaged t a.group a.code).1 := inv_staged hv hc
  have hA := fun (W : World) v (hq : IsTxn W v (sStaged t a.group a.code).1) => rAgain_any W v _ hq hinv
  clear hinv
  obtain ⟨⟨e1, e2, e3, e4⟩, -, -, -, -, -, -, -⟩ := ha
  obtain ⟨vw, vk, vn, vg, vl, rfl, h⟩ := h
  obtain ⟨⟨aw, cw, rfl⟩, ⟨ak, ck, rfl⟩, ⟨an, cn, rfl⟩, ⟨ag, cg, rfl⟩, ⟨al, cl, rfl⟩⟩ := h.shapes
  clear h
  obtain ⟨S, hS⟩ : ∃ S, (sStaged t a.group a.code) = S := ⟨_, rfl⟩
  rw [hS] at hc hp4 ⊢
  simp only [hS] at hX hA
  obtain ⟨T, c⟩ := S
  simp only at hX hA hc hp4 ⊢
  subst hc
  try simp only [← e1, ← e2, ← e3] at hX
  clear hS e1 e2 e3 e4
  obtain ⟨⟨ac, af, am, tp, tg, tt, ta, tu⟩, rl, rw_, rt, rg, rc, rp⟩ := r
  unfold AkV.enc An.enc
  try unfold An.enc at hX
  simp only [List.cons_append, List.nil_append] at hX ⊢
  have HX := Lib.hid hX; have HA := Lib.hid hA
  clear hX hA
  go_enter Tryz.func13, Tryz.ntmps13
  go_wp2_with (go_at_call 39; go_loud (refine (HX.out _ (by repeat (first | exact Fr.refl _ _ | assumption | refine Fr.alloc ?_ _ | refine Fr.drew ?_ | refine Fr.drewN ?_ _ | refine Fr.setCell ?_ (.inr (by simp; try omega)) _))).mono ?_); rintro e w1 ⟨v1, rfl, ⟨vw1, vk1, vn1, vg1, vl1, rfl, hT⟩, hf1⟩; have hbr := hf1.held (w.heap.size + 2) (blk0 (blkN (by simp))); obtain ⟨m2, n2, l2⟩ := box_cells hbr; have HBR := Lib.hid hbr; have hbx := hf1.held (w.heap.size + 3) (blkN (by simp)); obtain ⟨m3, n3, l3⟩ := box_cells hbx; have HBX := Lib.hid hbx; obtain ⟨⟨aw1, cw1, rfl⟩, ⟨ak1, ck1, rfl⟩, ⟨an1, cn1, rfl⟩, ⟨ag1, cg1, rfl⟩, ⟨al1, cl1, rfl⟩⟩ := hT.shapes; have HT := Lib.hid hT; clear hbr hbx hT)
  have hF1 : Fr N0 w w1 := (((((Fr.refl N0 w).alloc _).alloc _).alloc _).alloc _).then0 hf1
  have hfx := txn_box_fr (B := w.heap.size + 1 + 1 + 1) (v0 := .int .u8 T.phase) (v1 := .int .u64 T.start) (v2 := .int .u64 T.commit) (v3 := .slice aw1 T.writes.length cw1) (v4 := .slice ak1 T.keys.length ck1) (v5 := .slice an1 T.needs.length cn1) (v6 := .slice ag1 T.groups.length cg1) (v7 := .slice al1 T.left.length cl1) (v8 := .bool T.failed) (Fr.refl (fun k => k = w.heap.size + 1 + 1 + 1) w1) (.inl rfl)
  have hz := (hfx.at (k := w.heap.size + 2) (by show ¬ w.heap.size + 2 = w.heap.size + 1 + 1 + 1; omega) (lt_of_block HBR.out)).trans HBR.out
  have ht : ((((((((((w1.setCell ⟨w.heap.size + 1 + 1 + 1, 0, none⟩ (.int .u8 T.phase)).setCell ⟨w.heap.size + 1 + 1 + 1, 1, none⟩ (.int .u64 T.start)).setCell ⟨w.heap.size + 1 + 1 + 1, 2, none⟩ (.int .u64 T.commit)).setCell ⟨w.heap.size + 1 + 1 + 1, 3, none⟩ (.slice aw1 T.writes.length cw1)).setCell ⟨w.heap.size + 1 + 1 + 1, 4, none⟩ (.slice ak1 T.keys.length ck1)).setCell ⟨w.heap.size + 1 + 1 + 1, 5, none⟩ (.slice an1 T.needs.length cn1)).setCell ⟨w.heap.size + 1 + 1 + 1, 6, none⟩ (.slice ag1 T.groups.length cg1)).setCell ⟨w.heap.size + 1 + 1 + 1, 7, none⟩ (.slice al1 T.left.length cl1)).setCell ⟨w.heap.size + 1 + 1 + 1, 8, none⟩ (.bool T.failed))).heap[w.heap.size + 1 + 1 + 1]? = _ := txn_box_set HBX.out
  have hT : IsTxn ((((((((((w1.setCell ⟨w.heap.size + 1 + 1 + 1, 0, none⟩ (.int .u8 T.phase)).setCell ⟨w.heap.size + 1 + 1 + 1, 1, none⟩ (.int .u64 T.start)).setCell ⟨w.heap.size + 1 + 1 + 1, 2, none⟩ (.int .u64 T.commit)).setCell ⟨w.heap.size + 1 + 1 + 1, 3, none⟩ (.slice aw1 T.writes.length cw1)).setCell ⟨w.heap.size + 1 + 1 + 1, 4, none⟩ (.slice ak1 T.keys.length ck1)).setCell ⟨w.heap.size + 1 + 1 + 1, 5, none⟩ (.slice an1 T.needs.length cn1)).setCell ⟨w.heap.size + 1 + 1 + 1, 6, none⟩ (.slice ag1 T.groups.length cg1)).setCell ⟨w.heap.size + 1 + 1 + 1, 7, none⟩ (.slice al1 T.left.length cl1)).setCell ⟨w.heap.size + 1 + 1 + 1, 8, none⟩ (.bool T.failed))) (.agg #[.int .u8 T.phase, .int .u64 T.start, .int .u64 T.commit, .slice aw1 T.writes.length cw1, .slice ak1 T.keys.length ck1, .slice an1 T.needs.length cn1, .slice ag1 T.groups.length cg1, .slice al1 T.left.length cl1, .bool T.failed]) T := ⟨_, _, _, _, _, rfl, HT.out.past HBX.out (dull_txn _ _ _ _ _ _ _ _ _ _ _ _ _ _ _ _ _ _ _) hfx⟩
  have hf0 : Fr N0 w ((((((((((w1.setCell ⟨w.heap.size + 1 + 1 + 1, 0, none⟩ (.int .u8 T.phase)).setCell ⟨w.heap.size + 1 + 1 + 1, 1, none⟩ (.int .u64 T.start)).setCell ⟨w.heap.size + 1 + 1 + 1, 2, none⟩ (.int .u64 T.commit)).setCell ⟨w.heap.size + 1 + 1 + 1, 3, none⟩ (.slice aw1 T.writes.length cw1)).setCell ⟨w.heap.size + 1 + 1 + 1, 4, none⟩ (.slice ak1 T.keys.length ck1)).setCell ⟨w.heap.size + 1 + 1 + 1, 5, none⟩ (.slice an1 T.needs.length cn1)).setCell ⟨w.heap.size + 1 + 1 + 1, 6, none⟩ (.slice ag1 T.groups.length cg1)).setCell ⟨w.heap.size + 1 + 1 + 1, 7, none⟩ (.slice al1 T.left.length cl1)).setCell ⟨w.heap.size + 1 + 1 + 1, 8, none⟩ (.bool T.failed))) := hF1.trans hfx fun k hk => .inr (by rw [show k = w.heap.size + 1 + 1 + 1 from hk]; omega)
  obtain ⟨W0, hW0⟩ : ∃ W, ((((((((((w1.setCell ⟨w.heap.size + 1 + 1 + 1, 0, none⟩ (.int .u8 T.phase)).setCell ⟨w.heap.size + 1 + 1 + 1, 1, none⟩ (.int .u64 T.start)).setCell ⟨w.heap.size + 1 + 1 + 1, 2, none⟩ (.int .u64 T.commit)).setCell ⟨w.heap.size + 1 + 1 + 1, 3, none⟩ (.slice aw1 T.writes.length cw1)).setCell ⟨w.heap.size + 1 + 1 + 1, 4, none⟩ (.slice ak1 T.keys.length ck1)).setCell ⟨w.heap.size + 1 + 1 + 1, 5, none⟩ (.slice an1 T.needs.length cn1)).setCell ⟨w.heap.size + 1 + 1 + 1, 6, none⟩ (.slice ag1 T.groups.length cg1)).setCell ⟨w.heap.size + 1 + 1 + 1, 7, none⟩ (.slice al1 T.left.length cl1)).setCell ⟨w.heap.size + 1 + 1 + 1, 8, none⟩ (.bool T.failed))) = W := ⟨_, rfl⟩
  rw [hW0] at hz ht hT hf0 ⊢
  clear hW0 hfx HBX HBR HT m2 n2 l2 m3 n3 l3 hF1 hf1 HX
  clear w1
  obtain ⟨m0, n0, l0⟩ := box_cells hz
  obtain ⟨m1, n1, l1⟩ := box_cells ht
  have HZ := Lib.hid hz; have HX := Lib.hid ht; have HT := Lib.hid hT
  clear hz ht hT
  refine Code.wp_mono (Q := Exit.then (Back w (w.heap.size + 2) 6 7 8 #[.int .u8 T.phase, .int .u64 T.start, .int .u64 T.commit, .slice aw1 T.writes.length cw1, .slice ak1 T.keys.length ck1, .slice an1 T.needs.length cn1, .slice ag1 T.groups.length cg1, .slice al1 T.left.length cl1, .bool T.failed] T (again T) 0) (fun _ _ _ => False)) ?_ ?_
  case refine_2 =>
    go_region_with (go_at_call 10; go_loud (refine (HA.out _ _ (HT.out.fr0 (Fr.refl _ _).drew)).mono ?_); rintro e w3 ⟨vo, rfl, ho, hf3⟩; have hz1 := hf3.held (w.heap.size + 2) HZ.out; obtain ⟨p0, q0, k0⟩ := box_cells hz1; have ht1 := hf3.held (w.heap.size + 1 + 1 + 1) HX.out; obtain ⟨p1, q1, k1⟩ := box_cells ht1)
    all_goals exact ⟨vo, rfl, rfl, rfl, rfl, told_store (by omega) hz1 (dull_txn _ _ _ _ _ _ _ _ _ _ _ _ _ _ _ _ _ _ _) (HT.out.fr0 ((Fr.refl _ _).drew.then0 hf3)) ho (hf0.drew.then0 hf3)⟩
  intro e a' W hM
  cases e
  case' normal => skip
  all_goals (try exact (hM : False).elim)
  obtain ⟨vo, d1, d2, d3, d4, hM⟩ := hM
  clear HZ HX HT m0 n0 m1 n1 l0 l1 HA
  go_wp2
  (try simp only [Exit.inBlock, Exit.then])
  exact bodyPost_ret_by (results_row3 rfl _ _ (w.heap.size + 2) 32 _ (0, 0) _ d2 hM.1 d3 d4 Tryz.underlying32 rfl sizeTxn) d1 hM.step

end Go.Proofs.YthidminepegnoaaGreatDoor
namespace Go.Proofs.YthidminepegnoaaGreatDoor
open Go.RowKit Go.Shelf Go.Maps Go.Sort
set_option linter.unusedVariables false
set_option linter.unusedSimpArgs false

theorem lWanted_any (k : Nat) (hk : k < 7) (w : World) (v : Value) (t : Txn) (h : IsTxn w v t) (hv : Inv t) (r : AkV) (a : Ak) (ha : r.Is w a) (hl : a.l.length ≤ 1000) (hw : a.ws.length ≤ 1000) (hb : a.tbs.length ≤ 1000) :
    Calls Tryz.prog 13 #[.int .i64 k, v, .agg r.enc.toArray] w fun e w' => StepPost w (stepOf k t a).1 (outsOf k t a) (stepOf k t a).2 e w' := by
  obtain rfl | rfl | rfl | rfl | rfl | rfl | rfl : k = 0 ∨ k = 1 ∨ k = 2 ∨ k = 3 ∨ k = 4 ∨ k = 5 ∨ k = 6 := by omega
  · exact lWant0a w v t h hv r a ha
  · exact lWant1a w v t h hv r a ha hl hw
  · by_cases hc : (sCommit t a.tbs).2 = 0
    · have := lWant2b w v t h hv r a ha hb hc
      show Calls _ _ _ _ fun e w' => StepPost w (sCommit t a.tbs).1 (if (sCommit t a.tbs).2 = 0 then again (sCommit t a.tbs).1 else []) (sCommit t a.tbs).2 e w'
      rw [if_pos hc, hc]; exact this
    · have := lWant2a w v t h hv r a ha hb hc
      show Calls _ _ _ _ fun e w' => StepPost w (sCommit t a.tbs).1 (if (sCommit t a.tbs).2 = 0 then again (sCommit t a.tbs).1 else []) (sCommit t a.tbs).2 e w'
      rw [if_neg hc]; exact this
  · by_cases hc : (sStaged t a.group a.code).2 = 0 ∧ (sStaged t a.group a.code).1.phase = 4
    · have := lWant3b w v t h hv r a ha hc.1 (by simpa using hc.2)
      show Calls _ _ _ _ fun e w' => StepPost w (sStaged t a.group a.code).1 (if (sStaged t a.group a.code).2 = 0 ∧ (sStaged t a.group a.code).1.phase = 4 then again (sStaged t a.group a.code).1 else []) (sStaged t a.group a.code).2 e w'
      rw [if_pos hc, hc.1]; exact this
    · have := lWant3a w v t h hv r a ha (by
        by_cases h0 : (sStaged t a.group a.code).2 = 0
        · exact .inr (by simpa using fun h => hc ⟨h0, h⟩)
        · exact .inl h0)
      show Calls _ _ _ _ fun e w' => StepPost w (sStaged t a.group a.code).1 (if (sStaged t a.group a.code).2 = 0 ∧ (sStaged t a.group a.code).1.phase = 4 then again (sStaged t a.group a.code).1 else []) (sStaged t a.group a.code).2 e w'
      rw [if_neg hc]; exact this
  · by_cases hc : (sDecided t a.an).2 = 0
    · have := lWant4b w v t h hv r a ha hc
      show Calls _ _ _ _ fun e w' => StepPost w (sDecided t a.an).1 (if (sDecided t a.an).2 = 0 then again (sDecided t a.an).1 else []) (sDecided t a.an).2 e w'
      rw [if_pos hc, hc]; exact this
    · have := lWant4a w v t h hv r a ha hc
      show Calls _ _ _ _ fun e w' => StepPost w (sDecided t a.an).1 (if (sDecided t a.an).2 = 0 then again (sDecided t a.an).1 else []) (sDecided t a.an).2 e w'
      rw [if_neg hc]; exact this
  · exact lWant5 w v t h hv r a ha
  · by_cases hc : (sGive t).2 = 0
    · have := lWant6b w v t h hv r a ha hc
      show Calls _ _ _ _ fun e w' => StepPost w (sGive t).1 (if (sGive t).2 = 0 then again (sGive t).1 else []) (sGive t).2 e w'
      rw [if_pos hc, hc]; exact this
    · have := lWant6a w v t h hv r a ha hc
      show Calls _ _ _ _ fun e w' => StepPost w (sGive t).1 (if (sGive t).2 = 0 then again (sGive t).1 else []) (sGive t).2 e w'
      rw [if_neg hc]; exact this
end Go.Proofs.YthidminepegnoaaGreatDoor
