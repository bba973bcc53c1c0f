/- The law's wanted: the document's steps by their numbers. -/
import Derived.Test.YthidminepegnoaaGreatDoorQStepS
import Derived.Test.YthidminepegnoaaGreatDoorQRSteps
import Derived.Test.YthidminepegnoaaGreatDoorQRSteps2
import Derived.Test.YthidminepegnoaaGreatDoorQPWrite
import Derived.Test.YthidminepegnoaaGreatDoorQRCommit
import Derived.Test.YthidminepegnoaaGreatDoorQRAgain3
import Derived.Test.YthidminepegnoaaGreatDoorQPStaged
namespace Go.Proofs.YthidminepegnoaaGreatDoor
open Go.RowKit Go.Shelf Go.Maps Go.Sort
attribute [local go_sem] Oper.semAt_some
attribute [local irreducible] wpQuiet
set_option linter.unusedVariables false
set_option linter.unusedSimpArgs false

set_option maxRecDepth 100000 in
set_option maxHeartbeats 2000000 in
theorem lWant0a (w : World) (v : Value) (t : Txn) (h : IsTxn w v t) (hv : Inv t) (r : AkV) (a : Ak) (ha : r.Is w a)  :
    Calls Tryz.prog 13 #[.int .i64 0, v, .agg r.enc.toArray] w fun e w' => StepPost w (sStarted t a.an).1 [] (sStarted t a.an).2 e w' := by
  have hX := fun (W : World) (hf : Fr N0 w W) => rStarted_any W v t (h.fr0 hf) hv a.an
  obtain ⟨⟨e1, e2, e3, e4⟩, -, -, -, -, -, -, -⟩ := ha
  obtain ⟨vw, vk, vn, vg, vl, rfl, h⟩ := h
  obtain ⟨⟨aw, cw, rfl⟩, ⟨ak, ck, rfl⟩, ⟨an, cn, rfl⟩, ⟨ag, cg, rfl⟩, ⟨al, cl, rfl⟩⟩ := h.shapes
  clear h
  obtain ⟨S, hS⟩ : ∃ S, (sStarted t a.an) = S := ⟨_, rfl⟩
  rw [hS]
  simp only [hS] at hX
  skip
  obtain ⟨T, c⟩ := S
  simp only at hX 
  try simp only [← e1, ← e2, ← e3] at hX
  clear hS e1 e2 e3 e4
  obtain ⟨⟨ac, af, am, tp, tg, tt, ta, tu⟩, rl, rw_, rt, rg, rc, rp⟩ := r
  unfold AkV.enc An.enc
  try unfold An.enc at hX
  simp only [List.cons_append, List.nil_append] at hX ⊢
  have HX := Lib.hid hX
  clear hX
  by_cases hc : c = 0
  case' pos => subst hc
  skip
  case' neg => have hd : (c != 0) = true := by simpa using hc
  case' neg => clear hc
  all_goals
    go_enter Tryz.func13, Tryz.ntmps13
    go_wp2_with (go_at_call 36; go_loud (refine (HX.out _ (by repeat (first | exact Fr.refl _ _ | assumption | refine Fr.alloc ?_ _ | refine Fr.drew ?_ | refine Fr.drewN ?_ _ | refine Fr.setCell ?_ (.inr (by simp; try omega)) _))).mono ?_); rintro e w1 ⟨v1, rfl, ⟨vw1, vk1, vn1, vg1, vl1, rfl, hT⟩, hf1⟩; have hbr := hf1.held (w.heap.size + 2) (blk0 (blkN (by simp))); obtain ⟨m2, n2, l2⟩ := box_cells hbr; have HBR := Lib.hid hbr; have hbx := hf1.held (w.heap.size + 3) (blkN (by simp)); obtain ⟨m3, n3, l3⟩ := box_cells hbx; have HBX := Lib.hid hbx; obtain ⟨⟨aw1, cw1, rfl⟩, ⟨ak1, ck1, rfl⟩, ⟨an1, cn1, rfl⟩, ⟨ag1, cg1, rfl⟩, ⟨al1, cl1, rfl⟩⟩ := hT.shapes; have HT := Lib.hid hT; clear hbr hbx hT)
  all_goals
    (try simp only [Exit.inBlock, Exit.then])
    have hF1 : Fr N0 w w1 := (((((Fr.refl N0 w).alloc _).alloc _).alloc _).alloc _).then0 hf1
    have hfx := txn_box_fr (B := w.heap.size + 3) (v0 := .int .u8 T.phase) (v1 := .int .u64 T.start) (v2 := .int .u64 T.commit) (v3 := .slice aw1 T.writes.length cw1) (v4 := .slice ak1 T.keys.length ck1) (v5 := .slice an1 T.needs.length cn1) (v6 := .slice ag1 T.groups.length cg1) (v7 := .slice al1 T.left.length cl1) (v8 := .bool T.failed) (Fr.refl (fun k => k = w.heap.size + 3) w1) (.inl rfl)
    have hz := (hfx.at (k := w.heap.size + 2) (by show ¬ w.heap.size + 2 = w.heap.size + 3; omega) (lt_of_block HBR.out)).trans HBR.out
    refine bodyPost_ret_by (results_row3 rfl _ _ (w.heap.size + 2) 32 _ (0, 0) _ rfl (txn_box_set hz) rfl rfl Tryz.underlying32 rfl sizeTxn) rfl ?_
    exact (told_store (w := w) (by omega) hz (dull_txn _ _ _ _ _ _ _ _ _ _ _ _ _ _ _ _ _ _ _) ⟨_, _, _, _, _, rfl, HT.out.past HBX.out (dull_txn _ _ _ _ _ _ _ _ _ _ _ _ _ _ _ _ _ _ _) hfx⟩ (outs_nil _) (hF1.trans hfx fun k hk => .inr (by rw [show k = w.heap.size + 3 from hk]; omega))).step

set_option maxRecDepth 100000 in
set_option maxHeartbeats 2000000 in
theorem lWant1a (w : World) (v : Value) (t : Txn) (h : IsTxn w v t) (hv : Inv t) (r : AkV) (a : Ak) (ha : r.Is w a) (hfl : a.l.length ≤ 1000) (hfw : a.ws.length ≤ 1000) :
    Calls Tryz.prog 13 #[.int .i64 1, v, .agg r.enc.toArray] w fun e w' => StepPost w (sWrite t a.l a.ws).1 [] (sWrite t a.l a.ws).2 e w' := by
  have hX := fun (W : World) (hf : Fr N0 w W) => rWrite_any W v t (h.fr0 hf) hv ha.l.choose ha.ws.choose r.vl r.vw a.l a.ws (ha.l.choose_spec.fr0 hf) (ha.ws.choose_spec.fr0 hf) (fun x hx => (ha.wsOk x hx).1) hfl hfw
  obtain ⟨⟨e1, e2, e3, e4⟩, -, -, -, -, -, -, -⟩ := ha
  obtain ⟨vw, vk, vn, vg, vl, rfl, h⟩ := h
  obtain ⟨⟨aw, cw, rfl⟩, ⟨ak, ck, rfl⟩, ⟨an, cn, rfl⟩, ⟨ag, cg, rfl⟩, ⟨al, cl, rfl⟩⟩ := h.shapes
  clear h
  obtain ⟨S, hS⟩ : ∃ S, (sWrite t a.l a.ws) = S := ⟨_, rfl⟩
  rw [hS]
  simp only [hS] at hX
  skip
  obtain ⟨T, c⟩ := S
  simp only at hX 
  try simp only [← e1, ← e2, ← e3] at hX
  clear hS e1 e2 e3 e4
  obtain ⟨⟨ac, af, am, tp, tg, tt, ta, tu⟩, rl, rw_, rt, rg, rc, rp⟩ := r
  unfold AkV.enc An.enc
  try unfold An.enc at hX
  simp only [List.cons_append, List.nil_append] at hX ⊢
  have HX := Lib.hid hX
  clear hX
  by_cases hc : c = 0
  case' pos => subst hc
  skip
  case' neg => have hd : (c != 0) = true := by simpa using hc
  case' neg => clear hc
  all_goals
    go_enter Tryz.func13, Tryz.ntmps13
    go_wp2_with (go_at_call 37; go_loud (refine (HX.out _ (by repeat (first | exact Fr.refl _ _ | assumption | refine Fr.alloc ?_ _ | refine Fr.drew ?_ | refine Fr.drewN ?_ _ | refine Fr.setCell ?_ (.inr (by simp; try omega)) _))).mono ?_); rintro e w1 ⟨v1, rfl, ⟨vw1, vk1, vn1, vg1, vl1, rfl, hT⟩, hf1⟩; have hbr := hf1.held (w.heap.size + 2) (blk0 (blkN (by simp))); obtain ⟨m2, n2, l2⟩ := box_cells hbr; have HBR := Lib.hid hbr; have hbx := hf1.held (w.heap.size + 3) (blkN (by simp)); obtain ⟨m3, n3, l3⟩ := box_cells hbx; have HBX := Lib.hid hbx; obtain ⟨⟨aw1, cw1, rfl⟩, ⟨ak1, ck1, rfl⟩, ⟨an1, cn1, rfl⟩, ⟨ag1, cg1, rfl⟩, ⟨al1, cl1, rfl⟩⟩ := hT.shapes; have HT := Lib.hid hT; clear hbr hbx hT)
  all_goals
    (try simp only [Exit.inBlock, Exit.then])
    have hF1 : Fr N0 w w1 := (((((Fr.refl N0 w).alloc _).alloc _).alloc _).alloc _).then0 hf1
    have hfx := txn_box_fr (B := w.heap.size + 3) (v0 := .int .u8 T.phase) (v1 := .int .u64 T.start) (v2 := .int .u64 T.commit) (v3 := .slice aw1 T.writes.length cw1) (v4 := .slice ak1 T.keys.length ck1) (v5 := .slice an1 T.needs.length cn1) (v6 := .slice ag1 T.groups.length cg1) (v7 := .slice al1 T.left.length cl1) (v8 := .bool T.failed) (Fr.refl (fun k => k = w.heap.size + 3) w1) (.inl rfl)
    have hz := (hfx.at (k := w.heap.size + 2) (by show ¬ w.heap.size + 2 = w.heap.size + 3; omega) (lt_of_block HBR.out)).trans HBR.out
    refine bodyPost_ret_by (results_row3 rfl _ _ (w.heap.size + 2) 32 _ (0, 0) _ rfl (txn_box_set hz) rfl rfl Tryz.underlying32 rfl sizeTxn) rfl ?_
    exact (told_store (w := w) (by omega) hz (dull_txn _ _ _ _ _ _ _ _ _ _ _ _ _ _ _ _ _ _ _) ⟨_, _, _, _, _, rfl, HT.out.past HBX.out (dull_txn _ _ _ _ _ _ _ _ _ _ _ _ _ _ _ _ _ _ _) hfx⟩ (outs_nil _) (hF1.trans hfx fun k hk => .inr (by rw [show k = w.heap.size + 3 from hk]; omega))).step

set_option maxRecDepth 100000 in
set_option maxHeartbeats 2000000 in
theorem lWant2a (w : World) (v : Value) (t : Txn) (h : IsTxn w v t) (hv : Inv t) (r : AkV) (a : Ak) (ha : r.Is w a) (hfl : a.tbs.length ≤ 1000) (hcc : (sCommit t a.tbs).2 ≠ 0) :
    Calls Tryz.prog 13 #[.int .i64 2, v, .agg r.enc.toArray] w fun e w' => StepPost w (sCommit t a.tbs).1 [] (sCommit t a.tbs).2 e w' := by
  have hX := fun (W : World) (hf : Fr N0 w W) => rCommit_any W v t (h.fr0 hf) hv ha.tbs.choose r.vt a.tbs (ha.tbs.choose_spec.fr0 hf) ha.tbsOk hfl
  obtain ⟨⟨e1, e2, e3, e4⟩, -, -, -, -, -, -, -⟩ := ha
  obtain ⟨vw, vk, vn, vg, vl, rfl, h⟩ := h
  obtain ⟨⟨aw, cw, rfl⟩, ⟨ak, ck, rfl⟩, ⟨an, cn, rfl⟩, ⟨ag, cg, rfl⟩, ⟨al, cl, rfl⟩⟩ := h.shapes
  clear h
  obtain ⟨S, hS⟩ : ∃ S, (sCommit t a.tbs) = S := ⟨_, rfl⟩
  rw [hS]
  simp only [hS] at hX
  rw [hS] at hcc
  obtain ⟨T, c⟩ := S
  simp only at hX hcc
  try simp only [← e1, ← e2, ← e3] at hX
  clear hS e1 e2 e3 e4
  obtain ⟨⟨ac, af, am, tp, tg, tt, ta, tu⟩, rl, rw_, rt, rg, rc, rp⟩ := r
  unfold AkV.enc An.enc
  try unfold An.enc at hX
  simp only [List.cons_append, List.nil_append] at hX ⊢
  have HX := Lib.hid hX
  clear hX
  by_cases hc : c = 0
  case' pos => exact absurd hc hcc
  skip
  case' neg => have hd : (c != 0) = true := by simpa using hc
  case' neg => clear hc
  all_goals
    go_enter Tryz.func13, Tryz.ntmps13
    go_wp2_with (go_at_call 38; go_loud (refine (HX.out _ (by repeat (first | exact Fr.refl _ _ | assumption | refine Fr.alloc ?_ _ | refine Fr.drew ?_ | refine Fr.drewN ?_ _ | refine Fr.setCell ?_ (.inr (by simp; try omega)) _))).mono ?_); rintro e w1 ⟨v1, rfl, ⟨vw1, vk1, vn1, vg1, vl1, rfl, hT⟩, hf1⟩; have hbr := hf1.held (w.heap.size + 2) (blk0 (blkN (by simp))); obtain ⟨m2, n2, l2⟩ := box_cells hbr; have HBR := Lib.hid hbr; have hbx := hf1.held (w.heap.size + 3) (blkN (by simp)); obtain ⟨m3, n3, l3⟩ := box_cells hbx; have HBX := Lib.hid hbx; obtain ⟨⟨aw1, cw1, rfl⟩, ⟨ak1, ck1, rfl⟩, ⟨an1, cn1, rfl⟩, ⟨ag1, cg1, rfl⟩, ⟨al1, cl1, rfl⟩⟩ := hT.shapes; have HT := Lib.hid hT; clear hbr hbx hT)
  all_goals
    (try simp only [Exit.inBlock, Exit.then])
    have hF1 : Fr N0 w w1 := (((((Fr.refl N0 w).alloc _).alloc _).alloc _).alloc _).then0 hf1
    have hfx := txn_box_fr (B := w.heap.size + 3) (v0 := .int .u8 T.phase) (v1 := .int .u64 T.start) (v2 := .int .u64 T.commit) (v3 := .slice aw1 T.writes.length cw1) (v4 := .slice ak1 T.keys.length ck1) (v5 := .slice an1 T.needs.length cn1) (v6 := .slice ag1 T.groups.length cg1) (v7 := .slice al1 T.left.length cl1) (v8 := .bool T.failed) (Fr.refl (fun k => k = w.heap.size + 3) w1) (.inl rfl)
    have hz := (hfx.at (k := w.heap.size + 2) (by show ¬ w.heap.size + 2 = w.heap.size + 3; omega) (lt_of_block HBR.out)).trans HBR.out
    refine bodyPost_ret_by (results_row3 rfl _ _ (w.heap.size + 2) 32 _ (0, 0) _ rfl (txn_box_set hz) rfl rfl Tryz.underlying32 rfl sizeTxn) rfl ?_
    exact (told_store (w := w) (by omega) hz (dull_txn _ _ _ _ _ _ _ _ _ _ _ _ _ _ _ _ _ _ _) ⟨_, _, _, _, _, rfl, HT.out.past HBX.out (dull_txn _ _ _ _ _ _ _ _ _ _ _ _ _ _ _ _ _ _ _) hfx⟩ (outs_nil _) (hF1.trans hfx fun k hk => .inr (by rw [show k = w.heap.size + 3 from hk]; omega))).step

set_option maxRecDepth 100000 in
set_option maxHeartbeats 2000000 in
theorem lWant4a (w : World) (v : Value) (t : Txn) (h : IsTxn w v t) (hv : Inv t) (r : AkV) (a : Ak) (ha : r.Is w a) (hcc : (sDecided t a.an).2 ≠ 0) :
    Calls Tryz.prog 13 #[.int .i64 4, v, .agg r.enc.toArray] w fun e w' => StepPost w (sDecided t a.an).1 [] (sDecided t a.an).2 e w' := by
  have hX := fun (W : World) (hf : Fr N0 w W) => rDecided_any W v t (h.fr0 hf) hv a.an
  obtain ⟨⟨e1, e2, e3, e4⟩, -, -, -, -, -, -, -⟩ := ha
  obtain ⟨vw, vk, vn, vg, vl, rfl, h⟩ := h
  obtain ⟨⟨aw, cw, rfl⟩, ⟨ak, ck, rfl⟩, ⟨an, cn, rfl⟩, ⟨ag, cg, rfl⟩, ⟨al, cl, rfl⟩⟩ := h.shapes
  clear h
  obtain ⟨S, hS⟩ : ∃ S, (sDecided t a.an) = S := ⟨_, rfl⟩
  rw [hS]
  simp only [hS] at hX
  rw [hS] at hcc
  obtain ⟨T, c⟩ := S
  simp only at hX hcc
  try simp only [← e1, ← e2, ← e3] at hX
  clear hS e1 e2 e3 e4
  obtain ⟨⟨ac, af, am, tp, tg, tt, ta, tu⟩, rl, rw_, rt, rg, rc, rp⟩ := r
  unfold AkV.enc An.enc
  try unfold An.enc at hX
  simp only [List.cons_append, List.nil_append] at hX ⊢
  have HX := Lib.hid hX
  clear hX
  by_cases hc : c = 0
  case' pos => exact absurd hc hcc
  skip
  case' neg => have hd : (c != 0) = true := by simpa using hc
  case' neg => clear hc
  all_goals
    go_enter Tryz.func13, Tryz.ntmps13
    go_wp2_with (go_at_call 40; go_loud (refine (HX.out _ (by repeat (first | exact Fr.refl _ _ | assumption | refine Fr.alloc ?_ _ | refine Fr.drew ?_ | refine Fr.drewN ?_ _ | refine Fr.setCell ?_ (.inr (by simp; try omega)) _))).mono ?_); rintro e w1 ⟨v1, rfl, ⟨vw1, vk1, vn1, vg1, vl1, rfl, hT⟩, hf1⟩; have hbr := hf1.held (w.heap.size + 2) (blk0 (blkN (by simp))); obtain ⟨m2, n2, l2⟩ := box_cells hbr; have HBR := Lib.hid hbr; have hbx := hf1.held (w.heap.size + 3) (blkN (by simp)); obtain ⟨m3, n3, l3⟩ := box_cells hbx; have HBX := Lib.hid hbx; obtain ⟨⟨aw1, cw1, rfl⟩, ⟨ak1, ck1, rfl⟩, ⟨an1, cn1, rfl⟩, ⟨ag1, cg1, rfl⟩, ⟨al1, cl1, rfl⟩⟩ := hT.shapes; have HT := Lib.hid hT; clear hbr hbx hT)
  all_goals
    (try simp only [Exit.inBlock, Exit.then])
    have hF1 : Fr N0 w w1 := (((((Fr.refl N0 w).alloc _).alloc _).alloc _).alloc _).then0 hf1
    have hfx := txn_box_fr (B := w.heap.size + 3) (v0 := .int .u8 T.phase) (v1 := .int .u64 T.start) (v2 := .int .u64 T.commit) (v3 := .slice aw1 T.writes.length cw1) (v4 := .slice ak1 T.keys.length ck1) (v5 := .slice an1 T.needs.length cn1) (v6 := .slice ag1 T.groups.length cg1) (v7 := .slice al1 T.left.length cl1) (v8 := .bool T.failed) (Fr.refl (fun k => k = w.heap.size + 3) w1) (.inl rfl)
    have hz := (hfx.at (k := w.heap.size + 2) (by show ¬ w.heap.size + 2 = w.heap.size + 3; omega) (lt_of_block HBR.out)).trans HBR.out
    refine bodyPost_ret_by (results_row3 rfl _ _ (w.heap.size + 2) 32 _ (0, 0) _ rfl (txn_box_set hz) rfl rfl Tryz.underlying32 rfl sizeTxn) rfl ?_
    exact (told_store (w := w) (by omega) hz (dull_txn _ _ _ _ _ _ _ _ _ _ _ _ _ _ _ _ _ _ _) ⟨_, _, _, _, _, rfl, HT.out.past HBX.out (dull_txn _ _ _ _ _ _ _ _ _ _ _ _ _ _ _ _ _ _ _) hfx⟩ (outs_nil _) (hF1.trans hfx fun k hk => .inr (by rw [show k = w.heap.size + 3 from hk]; omega))).step

set_option maxRecDepth 100000 in
set_option maxHeartbeats 2000000 in
theorem lWant6a (w : World) (v : Value) (t : Txn) (h : IsTxn w v t) (hv : Inv t) (r : AkV) (a : Ak) (ha : r.Is w a) (hcc : (sGive t).2 ≠ 0) :
    Calls Tryz.prog 13 #[.int .i64 6, v, .agg r.enc.toArray] w fun e w' => StepPost w (sGive t).1 [] (sGive t).2 e w' := by
  have hX := fun (W : World) (hf : Fr N0 w W) => rGive_any W v t (h.fr0 hf) hv
  obtain ⟨⟨e1, e2, e3, e4⟩, -, -, -, -, -, -, -⟩ := ha
  obtain ⟨vw, vk, vn, vg, vl, rfl, h⟩ := h
  obtain ⟨⟨aw, cw, rfl⟩, ⟨ak, ck, rfl⟩, ⟨an, cn, rfl⟩, ⟨ag, cg, rfl⟩, ⟨al, cl, rfl⟩⟩ := h.shapes
  clear h
  obtain ⟨S, hS⟩ : ∃ S, (sGive t) = S := ⟨_, rfl⟩
  rw [hS]
  simp only [hS] at hX
  rw [hS] at hcc
  obtain ⟨T, c⟩ := S
  simp only at hX hcc
  try simp only [← e1, ← e2, ← e3] at hX
  clear hS e1 e2 e3 e4
  obtain ⟨⟨ac, af, am, tp, tg, tt, ta, tu⟩, rl, rw_, rt, rg, rc, rp⟩ := r
  unfold AkV.enc An.enc
  try unfold An.enc at hX
  simp only [List.cons_append, List.nil_append] at hX ⊢
  have HX := Lib.hid hX
  clear hX
  by_cases hc : c = 0
  case' pos => exact absurd hc hcc
  skip
  case' neg => have hd : (c != 0) = true := by simpa using hc
  case' neg => clear hc
  all_goals
    go_enter Tryz.func13, Tryz.ntmps13
    go_wp2_with (go_at_call 42; go_loud (refine (HX.out _ (by repeat (first | exact Fr.refl _ _ | assumption | refine Fr.alloc ?_ _ | refine Fr.drew ?_ | refine Fr.drewN ?_ _ | refine Fr.setCell ?_ (.inr (by simp; try omega)) _))).mono ?_); rintro e w1 ⟨v1, rfl, ⟨vw1, vk1, vn1, vg1, vl1, rfl, hT⟩, hf1⟩; have hbr := hf1.held (w.heap.size + 2) (blk0 (blkN (by simp))); obtain ⟨m2, n2, l2⟩ := box_cells hbr; have HBR := Lib.hid hbr; have hbx := hf1.held (w.heap.size + 3) (blkN (by simp)); obtain ⟨m3, n3, l3⟩ := box_cells hbx; have HBX := Lib.hid hbx; obtain ⟨⟨aw1, cw1, rfl⟩, ⟨ak1, ck1, rfl⟩, ⟨an1, cn1, rfl⟩, ⟨ag1, cg1, rfl⟩, ⟨al1, cl1, rfl⟩⟩ := hT.shapes; have HT := Lib.hid hT; clear hbr hbx hT)
  all_goals
    (try simp only [Exit.inBlock, Exit.then])
    have hF1 : Fr N0 w w1 := (((((Fr.refl N0 w).alloc _).alloc _).alloc _).alloc _).then0 hf1
    have hfx := txn_box_fr (B := w.heap.size + 3) (v0 := .int .u8 T.phase) (v1 := .int .u64 T.start) (v2 := .int .u64 T.commit) (v3 := .slice aw1 T.writes.length cw1) (v4 := .slice ak1 T.keys.length ck1) (v5 := .slice an1 T.needs.length cn1) (v6 := .slice ag1 T.groups.length cg1) (v7 := .slice al1 T.left.length cl1) (v8 := .bool T.failed) (Fr.refl (fun k => k = w.heap.size + 3) w1) (.inl rfl)
    have hz := (hfx.at (k := w.heap.size + 2) (by show ¬ w.heap.size + 2 = w.heap.size + 3; omega) (lt_of_block HBR.out)).trans HBR.out
    refine bodyPost_ret_by (results_row3 rfl _ _ (w.heap.size + 2) 32 _ (0, 0) _ rfl (txn_box_set hz) rfl rfl Tryz.underlying32 rfl sizeTxn) rfl ?_
    exact (told_store (w := w) (by omega) hz (dull_txn _ _ _ _ _ _ _ _ _ _ _ _ _ _ _ _ _ _ _) ⟨_, _, _, _, _, rfl, HT.out.past HBX.out (dull_txn _ _ _ _ _ _ _ _ _ _ _ _ _ _ _ _ _ _ _) hfx⟩ (outs_nil _) (hF1.trans hfx fun k hk => .inr (by rw [show k = w.heap.size + 3 from hk]; omega))).step

set_option maxRecDepth 100000 in
set_option maxHeartbeats 2000000 in
theorem lWant3a (w : World) (v : Value) (t : Txn) (h : IsTxn w v t) (hv : Inv t) (r : AkV) (a : Ak) (ha : r.Is w a) (hcc : (sStaged t a.group a.code).2 ≠ 0 ∨ ((sStaged t a.group a.code).1.phase == 4) = false) :
    Calls Tryz.prog 13 #[.int .i64 3, v, .agg r.enc.toArray] w fun e w' => StepPost w (sStaged t a.group a.code).1 [] (sStaged t a.group a.code).2 e w' := by
  have hX := fun (W : World) (hf : Fr N0 w W) => rStaged_any W v t (h.fr0 hf) hv a.group a.code
  obtain ⟨⟨e1, e2, e3, e4⟩, -, -, -, -, -, -, -⟩ := ha
  obtain ⟨vw, vk, vn, vg, vl, rfl, h⟩ := h
  obtain ⟨⟨aw, cw, rfl⟩, ⟨ak, ck, rfl⟩, ⟨an, cn, rfl⟩, ⟨ag, cg, rfl⟩, ⟨al, cl, rfl⟩⟩ := h.shapes
  clear h
  obtain ⟨S, hS⟩ : ∃ S, (sStaged t a.group a.code) = S := ⟨_, rfl⟩
  rw [hS]
  simp only [hS] at hX
  rw [hS] at hcc
  obtain ⟨T, c⟩ := S
  simp only at hX hcc
  try simp only [← e1, ← e2, ← e3] at hX
  clear hS e1 e2 e3 e4
  obtain ⟨⟨ac, af, am, tp, tg, tt, ta, tu⟩, rl, rw_, rt, rg, rc, rp⟩ := r
  unfold AkV.enc An.enc
  try unfold An.enc at hX
  simp only [List.cons_append, List.nil_append] at hX ⊢
  have HX := Lib.hid hX
  clear hX
  by_cases hc : c = 0
  case' pos => subst hc
  case' pos => have hp4 := hcc.resolve_left (fun h => h rfl)
  case' neg => have hd : (c != 0) = true := by simpa using hc
  case' neg => clear hc
  all_goals
    go_enter Tryz.func13, Tryz.ntmps13
    go_wp2_with (go_at_call 39; go_loud (refine (HX.out _ (by repeat (first | exact Fr.refl _ _ | assumption | refine Fr.alloc ?_ _ | refine Fr.drew ?_ | refine Fr.drewN ?_ _ | refine Fr.setCell ?_ (.inr (by simp; try omega)) _))).mono ?_); rintro e w1 ⟨v1, rfl, ⟨vw1, vk1, vn1, vg1, vl1, rfl, hT⟩, hf1⟩; have hbr := hf1.held (w.heap.size + 2) (blk0 (blkN (by simp))); obtain ⟨m2, n2, l2⟩ := box_cells hbr; have HBR := Lib.hid hbr; have hbx := hf1.held (w.heap.size + 3) (blkN (by simp)); obtain ⟨m3, n3, l3⟩ := box_cells hbx; have HBX := Lib.hid hbx; obtain ⟨⟨aw1, cw1, rfl⟩, ⟨ak1, ck1, rfl⟩, ⟨an1, cn1, rfl⟩, ⟨ag1, cg1, rfl⟩, ⟨al1, cl1, rfl⟩⟩ := hT.shapes; have HT := Lib.hid hT; clear hbr hbx hT)
  all_goals
    (try simp only [Exit.inBlock, Exit.then])
    have hF1 : Fr N0 w w1 := (((((Fr.refl N0 w).alloc _).alloc _).alloc _).alloc _).then0 hf1
    have hfx := txn_box_fr (B := w.heap.size + 3) (v0 := .int .u8 T.phase) (v1 := .int .u64 T.start) (v2 := .int .u64 T.commit) (v3 := .slice aw1 T.writes.length cw1) (v4 := .slice ak1 T.keys.length ck1) (v5 := .slice an1 T.needs.length cn1) (v6 := .slice ag1 T.groups.length cg1) (v7 := .slice al1 T.left.length cl1) (v8 := .bool T.failed) (Fr.refl (fun k => k = w.heap.size + 3) w1) (.inl rfl)
    have hz := (hfx.at (k := w.heap.size + 2) (by show ¬ w.heap.size + 2 = w.heap.size + 3; omega) (lt_of_block HBR.out)).trans HBR.out
    refine bodyPost_ret_by (results_row3 rfl _ _ (w.heap.size + 2) 32 _ (0, 0) _ rfl (txn_box_set hz) rfl rfl Tryz.underlying32 rfl sizeTxn) rfl ?_
    exact (told_store (w := w) (by omega) hz (dull_txn _ _ _ _ _ _ _ _ _ _ _ _ _ _ _ _ _ _ _) ⟨_, _, _, _, _, rfl, HT.out.past HBX.out (dull_txn _ _ _ _ _ _ _ _ _ _ _ _ _ _ _ _ _ _ _) hfx⟩ (outs_nil _) (hF1.trans hfx fun k hk => .inr (by rw [show k = w.heap.size + 3 from hk]; omega))).step

set_option maxRecDepth 100000 in
set_option maxHeartbeats 2000000 in
theorem lWant5 (w : World) (v : Value) (t : Txn) (h : IsTxn w v t) (hv : Inv t) (r : AkV) (a : Ak) (ha : r.Is w a) :
    Calls Tryz.prog 13 #[.int .i64 5, v, .agg r.enc.toArray] w fun e w' => StepPost w (sFinaled t a.group a.code).1 (if (sFinaled t a.group a.code).2 = 0 ∧ a.code ≠ 0 then [{ group := a.group, skind := 3, sstart := t.start, scommit := t.commit }] else []) (sFinaled t a.group a.code).2 e w' := by
  have hX := fun (W : World) (hf : Fr N0 w W) => rFinaled_any W v t (h.fr0 hf) hv a.group a.code
  obtain ⟨⟨e1, e2, e3, e4⟩, -, -, -, -, -, -, -⟩ := ha
  obtain ⟨vw, vk, vn, vg, vl, rfl, h⟩ := h
  obtain ⟨⟨aw, cw, rfl⟩, ⟨ak, ck, rfl⟩, ⟨an, cn, rfl⟩, ⟨ag, cg, rfl⟩, ⟨al, cl, rfl⟩⟩ := h.shapes
  clear h
  obtain ⟨S, hS⟩ : ∃ S, (sFinaled t a.group a.code) = S := ⟨_, rfl⟩
  obtain ⟨O, hO⟩ : ∃ O, ((if (sFinaled t a.group a.code).2 = 0 ∧ a.code ≠ 0 then [{ group := a.group, skind := 3, sstart := t.start, scommit := t.commit }] else [] : List Out)) = O := ⟨_, rfl⟩
  rw [hO, hS]
  simp only [hO] at hX
  simp only [hS] at hX
  try simp only [← e1, ← e2, ← e3] at hX
  clear hS hO e1 e2 e3 e4
  obtain ⟨⟨ac, af, am, tp, tg, tt, ta, tu⟩, rl, rw_, rt, rg, rc, rp⟩ := r
  unfold AkV.enc An.enc
  simp only [List.cons_append, List.nil_append] at hX ⊢
  have HX := Lib.hid hX
  clear hX
  go_enter Tryz.func13, Tryz.ntmps13
  go_wp2_with (go_at_call 41; go_loud (refine (HX.out _ (by repeat (first | exact Fr.refl _ _ | assumption | refine Fr.alloc ?_ _ | refine Fr.drew ?_ | refine Fr.drewN ?_ _ | refine Fr.setCell ?_ (.inr (by simp; try omega)) _))).mono ?_); rintro e w1 ⟨v1, vo, rfl, ⟨vw1, vk1, vn1, vg1, vl1, rfl, hT⟩, hO, hf1⟩; have hbr := hf1.held (w.heap.size + 2) (blk0 (blkN (by simp))); obtain ⟨m2, n2, l2⟩ := box_cells hbr; have HBR := Lib.hid hbr; obtain ⟨⟨aw1, cw1, rfl⟩, ⟨ak1, ck1, rfl⟩, ⟨an1, cn1, rfl⟩, ⟨ag1, cg1, rfl⟩, ⟨al1, cl1, rfl⟩⟩ := hT.shapes; have HT := Lib.hid hT; have HO := Lib.hid hO; clear hbr hT hO)
  (try simp only [Exit.inBlock, Exit.then])
  have hF := (((((Fr.refl N0 w).alloc _).alloc _).alloc _).alloc _).then0 hf1
  refine bodyPost_ret_by (results_row3 rfl _ _ (w.heap.size + 2) 32 _ (0, 0) _ rfl (txn_box_set HBR.out) rfl rfl Tryz.underlying32 rfl sizeTxn) rfl ?_
  exact (told_store (by omega) HBR.out (dull_txn _ _ _ _ _ _ _ _ _ _ _ _ _ _ _ _ _ _ _) ⟨_, _, _, _, _, rfl, HT.out⟩ HO.out hF).step

end Go.Proofs.YthidminepegnoaaGreatDoor
