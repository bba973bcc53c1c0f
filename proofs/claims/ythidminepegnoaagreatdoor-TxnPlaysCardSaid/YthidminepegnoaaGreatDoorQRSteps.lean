/- The program's Give. The document's steps: Begin, Started, Give, Decided. -/
import Derived.Test.YthidminepegnoaaGreatDoorQBegin
import Derived.Test.YthidminepegnoaaGreatDoorQRMay
import Derived.Test.YthidminepegnoaaGreatDoorQCheck
namespace Go.Proofs.YthidminepegnoaaGreatDoor
open Go.RowKit Go.Shelf Go.Maps Go.Sort
attribute [local go_sem] Oper.semAt_some
attribute [local irreducible] wpQuiet
set_option linter.unusedVariables false
set_option linter.unusedSimpArgs false

theorem xcheck2 (w : World) (v : Value) (t : Txn) (h : IsTxn w v t) (hv : Inv t) (B : Nat) (p q : Int) (hp : (Lit.int .u8 p).wf = true) (hq : (Lit.int .u8 q).wf = true) (hB : w.cell? ⟨B, 0, none⟩ = some (.int .u8 p)) (hB2 : w.cell? ⟨B, 1, none⟩ = some (.int .u8 q)) :
    Calls Tryz.prog 62 #[v, .slice (some ⟨B, 0, none⟩) 2 2] w fun e w' => e = .returned (.int .i64 (if t.phase = p ∨ t.phase = q then 0 else 3)) ∧ Fr N0 w w' := by
  have hI : Ints .u8 w B (.slice (some ⟨B, 0, none⟩) 2 2) [p, q] := by
    refine ⟨some ⟨B, 0, none⟩, 0, 2, rfl, Nat.le_refl _, by omega, fun _ => rfl, by simp, fun i hi => ?_, fun y hy => by simp at hy; rcases hy with rfl | rfl <;> assumption⟩
    have hi : i < 2 := hi
    obtain rfl | rfl : i = 0 ∨ i = 1 := by omega
    · exact hB
    · exact hB2
  have := xcheck_any w v t h hv B _ [p, q] hI (by simp)
  simpa using this

/-- The results' slots ahead of a return: a transaction's box, what is sent, an error. -/
def Back (w : World) (R : Nat) (p u u2 : Nat) (cs : Array Value) (t : Txn) (outs : List Out) (err : Int) (a : Act) (W : World) : Prop :=
  ∃ vo, a.defers = [] ∧ a.tmps.getD p undef = .pointer (some ⟨R, 0, none⟩) ∧ a.tmps.getD u undef = vo ∧ a.tmps.getD u2 undef = .int .i64 err ∧ Told w W R cs t vo outs
theorem cell_two0 (W : World) (v u : Value) (t : TypeId) (B : Nat) (hB : B = W.heap.size) : (W.alloc (.cells #[v, u] t)).cell? ⟨B, 0, none⟩ = some v := by
  subst hB; exact (boxS_new W #[v, u] t).1 0
theorem cell_two1 (W : World) (v u : Value) (t : TypeId) (B : Nat) (hB : B = W.heap.size) : (W.alloc (.cells #[v, u] t)).cell? ⟨B, 1, none⟩ = some u := by
  subst hB; exact (boxS_new W #[v, u] t).1 1

set_option maxRecDepth 100000 in
set_option maxHeartbeats 2000000 in
theorem xGive_no (w : World) (v : Value) (t : Txn) (h : IsTxn w v t) (hv : Inv t) (h2 : t.phase ≠ 2) (h3 : t.phase ≠ 3) :
    Calls Tryz.prog 35 #[v] w fun e w' => StepPost w {} [] 3 e w' := by
  have hC := fun (W : World) (hf : Fr N0 w W) B hB hB2 => xcheck2 W v t (h.fr0 hf) hv B 2 3 (by decide) (by decide) hB hB2
  obtain ⟨vw, vk, vn, vg, vl, rfl, h⟩ := h
  simp only [h2, h3, or_self, if_false] at hC
  clear h hv
  obtain ⟨ph, st, cm, ws, ks, ns, gs, ls, fl⟩ := t
  simp only at hC
  have HC := Lib.hid hC
  clear hC h2 h3
  go_enter Tryz.func35, Tryz.ntmps35
  go_wp2_with (go_at_call 62; go_loud (refine (HC.out _ (by repeat (first | exact Fr.refl _ _ | assumption | refine Fr.alloc ?_ _ | refine Fr.drew ?_ | refine Fr.drewN ?_ _ | refine Fr.setCell ?_ (.inr (by simp; try omega)) _)) _ (cell_two0 _ _ _ _ _ (by simp)) (cell_two1 _ _ _ _ _ (by simp))).mono ?_); rintro e w1 ⟨rfl, hf1⟩; have hbr := hf1.held (w.heap.size + 1) (blk0 (blkN (by simp))); obtain ⟨m2, n2, l2⟩ := box_cells hbr; have HBR := Lib.hid hbr; clear hbr)
  (try simp only [Exit.inBlock, Exit.then])
  refine bodyPost_ret_by (results_row3 rfl _ _ (w.heap.size + 1) 32 _ (0, 0) _ rfl (txn_box_set HBR.out) rfl rfl Tryz.underlying32 rfl sizeTxn) rfl ?_
  exact (told_nums (by omega) HBR.out (((((Fr.refl N0 w).alloc _).alloc _).alloc _).then0 hf1)).step

set_option maxRecDepth 100000 in
set_option maxHeartbeats 2000000 in
theorem xGive_open (w : World) (v : Value) (t : Txn) (h : IsTxn w v t) (hv : Inv t) (h2 : t.phase = 2) :
    Calls Tryz.prog 35 #[v] w fun e w' => StepPost w { t with phase := 6 } [] 0 e w' := by
  have hC := fun (W : World) (hf : Fr N0 w W) B hB hB2 => xcheck2 W v t (h.fr0 hf) hv B 2 3 (by decide) (by decide) hB hB2
  have hO := fun (W : World) (hf : Fr N0 w W) => xown_any W v t (h.fr0 hf) hv
  obtain ⟨vw, vk, vn, vg, vl, rfl, h⟩ := h
  simp only [h2, true_or, if_true] at hC
  clear h hv
  obtain ⟨ph, st, cm, ws, ks, ns, gs, ls, fl⟩ := t
  obtain rfl := h2
  simp only at hC hO ⊢
  have HC := Lib.hid hC; have HO := Lib.hid hO
  clear hC hO
  go_enter Tryz.func35, Tryz.ntmps35
  go_wp2_with (first
    | (go_at_call 62; go_loud (refine (HC.out _ (by repeat (first | exact Fr.refl _ _ | assumption | refine Fr.alloc ?_ _ | refine Fr.drew ?_ | refine Fr.drewN ?_ _ | refine Fr.setCell ?_ (.inr (by simp; try omega)) _)) _ (cell_two0 _ _ _ _ _ (by simp)) (cell_two1 _ _ _ _ _ (by simp))).mono ?_); rintro e w1 ⟨rfl, hf1⟩; have hba := hf1.held w.heap.size (blk0 (blk0 (blkN rfl))); obtain ⟨m1, n1, l1⟩ := box_cells hba; have hbr := hf1.held (w.heap.size + 1) (blk0 (blkN (by simp))); obtain ⟨m2, n2, l2⟩ := box_cells hbr; have HBR := Lib.hid hbr; have HBA := Lib.hid hba; clear hbr hba)
    | (go_at_call 65; go_loud (refine (HO.out _ (Fr.then0 (by repeat (first | exact Fr.refl _ _ | assumption | refine Fr.alloc ?_ _ | refine Fr.drew ?_ | refine Fr.drewN ?_ _ | refine Fr.setCell ?_ (.inr (by simp; try omega)) _)) hf1)).mono ?_); rintro e w2 ⟨v2, rfl, ⟨vw2, vk2, vn2, vg2, vl2, rfl, hT⟩, hf2⟩; have hbr := hf2.held (w.heap.size + 1) HBR.out; obtain ⟨m2', n2', l2'⟩ := box_cells hbr; have HBR2 := Lib.hid hbr; have hba := hf2.held (w.heap.size) HBA.out; obtain ⟨m1', n1', l1'⟩ := box_cells hba; have HBA2 := Lib.hid hba; obtain ⟨⟨aw, cw, rfl⟩, ⟨ak, ck, rfl⟩, ⟨an, cn, rfl⟩, ⟨ag, cg, rfl⟩, ⟨al, cl, rfl⟩⟩ := hT.shapes; have HT := Lib.hid hT; clear hbr hba hT))
  (try simp only [Exit.inBlock, Exit.then])
  have hF := ((((Fr.refl N0 w).alloc _).alloc _).alloc _).then0 hf1 |>.then0 hf2
  refine bodyPost_ret_by (results_row3 rfl _ _ (w.heap.size + 1) 32 _ (0, 0) _ rfl (blk0 (txn_box_set HBR2.out)) rfl rfl Tryz.underlying32 rfl sizeTxn) rfl ?_
  exact ((told_store (t := ⟨6, st, cm, ws, ks, ns, gs, ls, fl⟩) (by omega) HBR2.out (dull_txn _ _ _ _ _ _ _ _ _ _ _ _ _ _ _ _ _ _ _) ⟨_, _, _, _, _, rfl, ⟨HT.out.ws, HT.out.ks, HT.out.ns, HT.out.gs, HT.out.ls, HT.out.n0⟩⟩ (outs_nil _) hF).alloc _).step

set_option maxRecDepth 100000 in
set_option maxHeartbeats 2000000 in
theorem xGive_stage (w : World) (v : Value) (t : Txn) (h : IsTxn w v t) (hv : Inv t) (h3 : t.phase = 3) :
    Calls Tryz.prog 35 #[v] w fun e w' => StepPost w { t with phase := 4, failed := true, left := [] } (again { t with phase := 4, failed := true, left := [] }) 0 e w' := by
  have hC := fun (W : World) (hf : Fr N0 w W) B hB hB2 => xcheck2 W v t (h.fr0 hf) hv B 2 3 (by decide) (by decide) hB hB2
  have hO := fun (W : World) (hf : Fr N0 w W) => xown_any W v t (h.fr0 hf) hv
  have hi := inv_give hv
  rw [sGive, if_neg (by omega), if_pos h3] at hi
  have hA := fun W v (hq : IsTxn W v { t with phase := 4, failed := true, left := [] }) => xAgain_any W v _ hq (hi rfl)
  obtain ⟨vw, vk, vn, vg, vl, rfl, h⟩ := h
  simp only [h3, or_true, if_true] at hC
  clear h hv hi
  obtain ⟨ph, st, cm, ws, ks, ns, gs, ls, fl⟩ := t
  obtain rfl := h3
  simp only at hC hO hA ⊢
  have HC := Lib.hid hC; have HO := Lib.hid hO; have HA := Lib.hid hA
  clear hC hO hA
  go_enter Tryz.func35, Tryz.ntmps35
  go_wp2_with (first
    | (go_at_call 62; go_loud (refine (HC.out _ (by repeat (first | exact Fr.refl _ _ | assumption | refine Fr.alloc ?_ _ | refine Fr.drew ?_ | refine Fr.drewN ?_ _ | refine Fr.setCell ?_ (.inr (by simp; try omega)) _)) _ (cell_two0 _ _ _ _ _ (by simp)) (cell_two1 _ _ _ _ _ (by simp))).mono ?_); rintro e w1 ⟨rfl, hf1⟩; have hba := hf1.held w.heap.size (blk0 (blk0 (blkN rfl))); obtain ⟨m1, n1, l1⟩ := box_cells hba; have hbr := hf1.held (w.heap.size + 1) (blk0 (blkN (by simp))); obtain ⟨m2, n2, l2⟩ := box_cells hbr; have HBR := Lib.hid hbr; have HBA := Lib.hid hba; clear hbr hba)
    | (go_at_call 65; go_loud (refine (HO.out _ (Fr.then0 (by repeat (first | exact Fr.refl _ _ | assumption | refine Fr.alloc ?_ _ | refine Fr.drew ?_ | refine Fr.drewN ?_ _ | refine Fr.setCell ?_ (.inr (by simp; try omega)) _)) hf1)).mono ?_); rintro e w2 ⟨v2, rfl, ⟨vw2, vk2, vn2, vg2, vl2, rfl, hT⟩, hf2⟩; have hbr := hf2.held (w.heap.size + 1) HBR.out; obtain ⟨m2', n2', l2'⟩ := box_cells hbr; have HBR2 := Lib.hid hbr; have hba := hf2.held (w.heap.size) HBA.out; obtain ⟨m1', n1', l1'⟩ := box_cells hba; have HBA2 := Lib.hid hba; obtain ⟨⟨aw, cw, rfl⟩, ⟨ak, ck, rfl⟩, ⟨an, cn, rfl⟩, ⟨ag, cg, rfl⟩, ⟨al, cl, rfl⟩⟩ := hT.shapes; have HT := Lib.hid hT; clear hbr hba hT))
  have hz : (w2.alloc (.cells #[.int .u8 4, .int .u64 st, .int .u64 cm, .slice aw ws.length cw, .slice ak ks.length ck, .slice an ns.length cn, .slice ag gs.length cg, .slice none 0 0, .bool true] 32)).heap[w.heap.size + 1]? = _ := blk0 HBR2.out
  have ht : (w2.alloc (.cells #[.int .u8 4, .int .u64 st, .int .u64 cm, .slice aw ws.length cw, .slice ak ks.length ck, .slice an ns.length cn, .slice ag gs.length cg, .slice none 0 0, .bool true] 32)).heap[w2.heap.size]? = _ := blkN rfl
  have hT : IsTxn (w2.alloc (.cells #[.int .u8 4, .int .u64 st, .int .u64 cm, .slice aw ws.length cw, .slice ak ks.length ck, .slice an ns.length cn, .slice ag gs.length cg, .slice none 0 0, .bool true] 32)) (.agg #[.int .u8 4, .int .u64 st, .int .u64 cm, .slice aw ws.length cw, .slice ak ks.length ck, .slice an ns.length cn, .slice ag gs.length cg, .slice none 0 0, .bool true]) ⟨4, st, cm, ws, ks, ns, gs, [], true⟩ :=
    IsTxn.fr0 (w := w2) ⟨_, _, _, _, _, rfl, ⟨HT.out.ws, HT.out.ks, HT.out.ns, HT.out.gs, ⟨0, Ints.nil _ _ _⟩, HT.out.n0⟩⟩ ((Fr.refl _ _).alloc _)
  have hf0 := (((((Fr.refl N0 w).alloc _).alloc _).alloc _).then0 hf1 |>.then0 hf2).alloc (.cells #[.int .u8 4, .int .u64 st, .int .u64 cm, .slice aw ws.length cw, .slice ak ks.length ck, .slice an ns.length cn, .slice ag gs.length cg, .slice none 0 0, .bool true] 32)
  obtain ⟨W0, hW0⟩ : ∃ W, w2.alloc (.cells #[.int .u8 4, .int .u64 st, .int .u64 cm, .slice aw ws.length cw, .slice ak ks.length ck, .slice an ns.length cn, .slice ag gs.length cg, .slice none 0 0, .bool true] 32) = W := ⟨_, rfl⟩
  rw [hW0] at hz ht hT hf0 ⊢
  obtain ⟨Bx, hBx⟩ : ∃ B, w2.heap.size = B := ⟨_, rfl⟩
  rw [hBx] at ht ⊢
  clear hW0 HC HO HBR HBA HBR2 HBA2 HT m1 n1 l1 m2 n2 l2 m1' n1' l1' m2' n2' l2' hf1 hf2 w1
  clear hBx w2
  obtain ⟨m0, n0, l0⟩ := box_cells hz
  obtain ⟨m1, n1, l1⟩ := box_cells ht
  have HZ := Lib.hid hz; have HX := Lib.hid ht; have HT := Lib.hid hT
  clear hz ht hT
  refine Code.wp_mono (Q := Exit.then (Back w (w.heap.size + 1) 2 3 4 #[.int .u8 4, .int .u64 st, .int .u64 cm, .slice aw ws.length cw, .slice ak ks.length ck, .slice an ns.length cn, .slice ag gs.length cg, .slice none 0 0, .bool true] ⟨4, st, cm, ws, ks, ns, gs, [], true⟩ (again ⟨4, st, cm, ws, ks, ns, gs, [], true⟩) 0) (fun _ _ _ => False)) ?_ ?_
  case refine_2 =>
    go_region_with (go_at_call 18; go_loud (refine (HA.out _ _ (HT.out.fr0 (Fr.refl _ _).drew)).mono ?_); rintro e w3 ⟨vo, rfl, ho, hf3⟩; have hz1 := hf3.held (w.heap.size + 1) HZ.out; obtain ⟨p0, q0, k0⟩ := box_cells hz1; have ht1 := hf3.held (Bx) HX.out; obtain ⟨p1, q1, k1⟩ := box_cells ht1)
    all_goals exact ⟨vo, rfl, rfl, rfl, rfl, told_store (by omega) hz1 (dull_txn _ _ _ _ _ _ _ _ _ _ _ _ _ _ _ _ _ _ _) (HT.out.fr0 ((Fr.refl _ _).drew.then0 hf3)) ho (hf0.drew.then0 hf3)⟩
  intro e a' W hM
  cases e
  case' normal => skip
  all_goals (try exact (hM : False).elim)
  obtain ⟨vo, d1, d2, d3, d4, hM⟩ := hM
  clear HZ HX HT m0 n0 m1 n1 l0 l1 HA
  go_wp2
  (try simp only [Exit.inBlock, Exit.then])
  exact bodyPost_ret_by (results_row3 rfl _ _ (w.heap.size + 1) 32 _ (0, 0) _ d2 hM.1 d3 d4 Tryz.underlying32 rfl sizeTxn) d1 hM.step

theorem xGive_any (w : World) (v : Value) (t : Txn) (h : IsTxn w v t) (hv : Inv t) :
    Calls Tryz.prog 35 #[v] w fun e w' => StepPost w (sGive t).1 (if (sGive t).2 = 0 then again (sGive t).1 else []) (sGive t).2 e w' := by
  unfold sGive
  by_cases h2 : t.phase = 2
  · simp only [if_pos h2, if_true]
    exact xGive_open w v t h hv h2
  · by_cases h3 : t.phase = 3
    · simp only [if_neg h2, if_pos h3, if_true]
      exact xGive_stage w v t h hv h3
    · simp only [if_neg h2, if_neg h3]
      exact xGive_no w v t h hv h2 h3
end Go.Proofs.YthidminepegnoaaGreatDoor
namespace Go.Proofs.YthidminepegnoaaGreatDoor
open Go.RowKit Go.Shelf Go.Maps Go.Sort
attribute [local go_sem] Oper.semAt_some
attribute [local irreducible] wpQuiet
set_option linter.unusedVariables false
set_option linter.unusedSimpArgs false

set_option maxRecDepth 100000 in
set_option maxHeartbeats 2000000 in
theorem rBegin_any (w : World) : Calls Tryz.prog 7 #[] w fun e w' => ∃ v, e = .returned v ∧ IsTxn w' v { phase := 1 } ∧ Fr N0 w w' := by
  go_enter Tryz.func7, Tryz.ntmps7
  go_wp2
  (try simp only [Exit.inBlock, Exit.then])
  refine bodyPost_ret_by (results_cell_row rfl _ _ w.heap.size 32 _ (0, 0) _ rfl (World.alloc_heap_new _ _) Tryz.underlying32 rfl sizeTxn) rfl ?_
  exact ⟨_, rfl, isTxn_nums _ _ _ _ _, (Fr.refl _ _).alloc _⟩

set_option maxRecDepth 100000 in
set_option maxHeartbeats 2000000 in
theorem rStarted_any (w : World) (v : Value) (t : Txn) (h : IsTxn w v t) (hv : Inv t) (a : An) :
    Calls Tryz.prog 36 #[v, .agg a.enc.toArray] w fun e w' => StepPost2 w (sStarted t a).1 (sStarted t a).2 e w' := by
  have hC := fun (W : World) (hf : Fr N0 w W) => rcheck_any W v t (h.fr0 hf) hv 1 1
  obtain ⟨vw, vk, vn, vg, vl, rfl, h⟩ := h
  simp only [or_self] at hC
  clear h hv
  obtain ⟨ph, st, cm, ws, ks, ns, gs, ls, fl⟩ := t
  obtain ⟨s, hs⟩ : ∃ s, sStarted ⟨ph, st, cm, ws, ks, ns, gs, ls, fl⟩ a = s := ⟨_, rfl⟩
  have hsd : s = if ph ≠ 1 then ({}, 3) else if a.code ≠ 0 ∨ a.first = 0 then ({}, 2) else ({ phase := 2, start := a.first }, 0) := by rw [← hs]; rfl
  rw [hs]
  clear hs
  obtain ⟨ac, af, am, tp, tg, tt, ta, tu⟩ := a
  unfold An.enc
  simp only at hsd hC ⊢
  by_cases hp : ph = 1
  · rw [if_neg (by simp [hp])] at hsd
    simp only [if_pos hp] at hC
    have HC := Lib.hid hC
    clear hC hp
    by_cases hbad : ac ≠ 0 ∨ af = 0
    · rw [if_pos hbad] at hsd
      have HS := Lib.hid hsd
      have hcs : (ac != 0) = true ∨ (ac != 0) = false ∧ (af == 0) = true := by
        by_cases h1 : ac = 0
        · exact .inr ⟨by simpa using h1, by simpa using hbad.resolve_left (fun h => h h1)⟩
        · exact .inl (by simpa using h1)
      clear hsd hbad
      rcases hcs with hd | ⟨hd, hd2⟩
      all_goals
        go_enter Tryz.func36, Tryz.ntmps36
        go_wp2_with (go_at_call 75; go_loud (refine (HC.out _ (by repeat (first | exact Fr.refl _ _ | assumption | refine Fr.alloc ?_ _ | refine Fr.drew ?_ | refine Fr.drewN ?_ _ | refine Fr.setCell ?_ (.inr (by simp; try omega)) _))).mono ?_); rintro e w1 ⟨rfl, hf1⟩; have hb1 := hf1.held (w.heap.size + 1) (blk0 (blkN (by simp))); obtain ⟨m1, n1, l1⟩ := box_cells hb1; have hb2 := hf1.held (w.heap.size + 2) (blkN (by simp)); obtain ⟨m2, n2, l2⟩ := box_cells hb2; have HBR := Lib.hid hb2; clear hb1 hb2)
        obtain rfl := HS.out
        (try simp only [Exit.inBlock, Exit.then])
        have hF := ((((Fr.refl N0 w).alloc _).alloc _).alloc _).then0 hf1
        refine bodyPost_ret_by (results_row2 rfl _ _ (w.heap.size + 2) 32 _ (0, 0) _ rfl (txn_box_set HBR.out) rfl Tryz.underlying32 rfl sizeTxn) rfl ?_
        exact (told_nums (by omega) HBR.out hF).step2

    · rw [if_neg hbad] at hsd
      have HS := Lib.hid hsd
      have hd : (ac != 0) = false := by simpa using fun h => hbad (.inl h)
      have hd2 : (af == 0) = false := by simpa using fun h => hbad (.inr h)
      clear hsd hbad
      all_goals
        go_enter Tryz.func36, Tryz.ntmps36
        go_wp2_with (go_at_call 75; go_loud (refine (HC.out _ (by repeat (first | exact Fr.refl _ _ | assumption | refine Fr.alloc ?_ _ | refine Fr.drew ?_ | refine Fr.drewN ?_ _ | refine Fr.setCell ?_ (.inr (by simp; try omega)) _))).mono ?_); rintro e w1 ⟨rfl, hf1⟩; have hb1 := hf1.held (w.heap.size + 1) (blk0 (blkN (by simp))); obtain ⟨m1, n1, l1⟩ := box_cells hb1; have hb2 := hf1.held (w.heap.size + 2) (blkN (by simp)); obtain ⟨m2, n2, l2⟩ := box_cells hb2; have HBR := Lib.hid hb2; clear hb1 hb2)
        obtain rfl := HS.out
        (try simp only [Exit.inBlock, Exit.then])
        have hF := ((((Fr.refl N0 w).alloc _).alloc _).alloc _).then0 hf1
        refine bodyPost_ret_by (results_row2 rfl _ _ (w.heap.size + 2) 32 _ (0, 0) _ rfl (txn_box_set HBR.out) rfl Tryz.underlying32 rfl sizeTxn) rfl ?_
        exact (told_nums (by omega) HBR.out hF).step2

  · rw [if_pos hp] at hsd
    simp only [if_neg hp] at hC
    have HC := Lib.hid hC; have HS := Lib.hid hsd
    clear hC hp hsd
    all_goals
        go_enter Tryz.func36, Tryz.ntmps36
        go_wp2_with (go_at_call 75; go_loud (refine (HC.out _ (by repeat (first | exact Fr.refl _ _ | assumption | refine Fr.alloc ?_ _ | refine Fr.drew ?_ | refine Fr.drewN ?_ _ | refine Fr.setCell ?_ (.inr (by simp; try omega)) _))).mono ?_); rintro e w1 ⟨rfl, hf1⟩; have hb1 := hf1.held (w.heap.size + 1) (blk0 (blkN (by simp))); obtain ⟨m1, n1, l1⟩ := box_cells hb1; have hb2 := hf1.held (w.heap.size + 2) (blkN (by simp)); obtain ⟨m2, n2, l2⟩ := box_cells hb2; have HBR := Lib.hid hb2; clear hb1 hb2)
        obtain rfl := HS.out
        (try simp only [Exit.inBlock, Exit.then])
        have hF := ((((Fr.refl N0 w).alloc _).alloc _).alloc _).then0 hf1
        refine bodyPost_ret_by (results_row2 rfl _ _ (w.heap.size + 2) 32 _ (0, 0) _ rfl (txn_box_set HBR.out) rfl Tryz.underlying32 rfl sizeTxn) rfl ?_
        exact (told_nums (by omega) HBR.out hF).step2

set_option maxRecDepth 100000 in
set_option maxHeartbeats 2000000 in
theorem rGive_any (w : World) (v : Value) (t : Txn) (h : IsTxn w v t) (hv : Inv t) :
    Calls Tryz.prog 42 #[v] w fun e w' => StepPost2 w (sGive t).1 (sGive t).2 e w' := by
  have hC := fun (W : World) (hf : Fr N0 w W) => rcheck_any W v t (h.fr0 hf) hv 2 3
  obtain ⟨vw, vk, vn, vg, vl, rfl, h⟩ := h
  obtain ⟨⟨aw, cw, rfl⟩, ⟨ak, ck, rfl⟩, ⟨an, cn, rfl⟩, ⟨ag, cg, rfl⟩, ⟨al, cl, rfl⟩⟩ := h.shapes
  have HT := Lib.hid h
  clear h hv
  obtain ⟨ph, st, cm, ws, ks, ns, gs, ls, fl⟩ := t
  unfold sGive
  simp only at hC HT ⊢
  by_cases h2 : ph = 2
  · subst h2
    simp only [true_or, if_true] at hC ⊢
    have HC := Lib.hid hC
    clear hC
    go_enter Tryz.func42, Tryz.ntmps42
    go_wp2_with (go_at_call 75; go_loud (refine (HC.out _ (by repeat (first | exact Fr.refl _ _ | assumption | refine Fr.alloc ?_ _ | refine Fr.drew ?_ | refine Fr.drewN ?_ _ | refine Fr.setCell ?_ (.inr (by simp; try omega)) _))).mono ?_); rintro e w1 ⟨rfl, hf1⟩; have hb0 := hf1.held w.heap.size (blk0 (blkN (by simp))); obtain ⟨m0, n0, l0⟩ := box_cells hb0; have hb1 := hf1.held (w.heap.size + 1) (blkN (by simp)); obtain ⟨m1, n1, l1⟩ := box_cells hb1; have HBR := Lib.hid hb1; clear hb0 hb1)
    (try simp only [Exit.inBlock, Exit.then])
    have hF := (((Fr.refl N0 w).alloc _).alloc _).then0 hf1
    refine bodyPost_ret_by (results_row2 rfl _ _ (w.heap.size + 1) 32 _ (0, 0) _ rfl (blk0 (txn_box_set HBR.out)) rfl Tryz.underlying32 rfl sizeTxn) rfl ?_
    exact ((told_store (t := ⟨6, st, cm, ws, ks, ns, gs, ls, fl⟩) (by omega) HBR.out (dull_txn _ _ _ _ _ _ _ _ _ _ _ _ _ _ _ _ _ _ _) (IsTxn.fr0 (w := w) ⟨_, _, _, _, _, rfl, ⟨HT.out.ws, HT.out.ks, HT.out.ns, HT.out.gs, HT.out.ls, HT.out.n0⟩⟩ hF) (outs_nil _) hF).alloc _).step2
  · by_cases h3 : ph = 3
    · subst h3
      simp only [or_true, if_true, if_neg h2] at hC ⊢
      have HC := Lib.hid hC
      clear hC h2
      go_enter Tryz.func42, Tryz.ntmps42
      go_wp2_with (go_at_call 75; go_loud (refine (HC.out _ (by repeat (first | exact Fr.refl _ _ | assumption | refine Fr.alloc ?_ _ | refine Fr.drew ?_ | refine Fr.drewN ?_ _ | refine Fr.setCell ?_ (.inr (by simp; try omega)) _))).mono ?_); rintro e w1 ⟨rfl, hf1⟩; have hb0 := hf1.held w.heap.size (blk0 (blkN (by simp))); obtain ⟨m0, n0, l0⟩ := box_cells hb0; have hb1 := hf1.held (w.heap.size + 1) (blkN (by simp)); obtain ⟨m1, n1, l1⟩ := box_cells hb1; have HBR := Lib.hid hb1; clear hb0 hb1)
      (try simp only [Exit.inBlock, Exit.then])
      have hF := (((Fr.refl N0 w).alloc _).alloc _).then0 hf1
      refine bodyPost_ret_by (results_row2 rfl _ _ (w.heap.size + 1) 32 _ (0, 0) _ rfl (blk0 (txn_box_set HBR.out)) rfl Tryz.underlying32 rfl sizeTxn) rfl ?_
      exact ((told_store (t := ⟨4, st, cm, ws, ks, ns, gs, [], true⟩) (by omega) HBR.out (dull_txn _ _ _ _ _ _ _ _ _ _ _ _ _ _ _ _ _ _ _) (IsTxn.fr0 (w := w) ⟨_, _, _, _, _, rfl, ⟨HT.out.ws, HT.out.ks, HT.out.ns, HT.out.gs, ⟨0, Ints.nil _ _ _⟩, HT.out.n0⟩⟩ hF) (outs_nil _) hF).alloc _).step2
    · simp only [h2, h3, or_self, if_false] at hC ⊢
      have HC := Lib.hid hC
      clear hC h2 h3 HT
      go_enter Tryz.func42, Tryz.ntmps42
      go_wp2_with (go_at_call 75; go_loud (refine (HC.out _ (by repeat (first | exact Fr.refl _ _ | assumption | refine Fr.alloc ?_ _ | refine Fr.drew ?_ | refine Fr.drewN ?_ _ | refine Fr.setCell ?_ (.inr (by simp; try omega)) _))).mono ?_); rintro e w1 ⟨rfl, hf1⟩; have hb0 := hf1.held w.heap.size (blk0 (blkN (by simp))); obtain ⟨m0, n0, l0⟩ := box_cells hb0; have hb1 := hf1.held (w.heap.size + 1) (blkN (by simp)); obtain ⟨m1, n1, l1⟩ := box_cells hb1; have HBR := Lib.hid hb1; clear hb0 hb1)
      (try simp only [Exit.inBlock, Exit.then])
      have hF := (((Fr.refl N0 w).alloc _).alloc _).then0 hf1
      refine bodyPost_ret_by (results_row2 rfl _ _ (w.heap.size + 1) 32 _ (0, 0) _ rfl (txn_box_set HBR.out) rfl Tryz.underlying32 rfl sizeTxn) rfl ?_
      exact (told_nums (by omega) HBR.out hF).step2

set_option maxRecDepth 100000 in
set_option maxHeartbeats 2000000 in
theorem rDecided_any (w : World) (v : Value) (t : Txn) (h : IsTxn w v t) (hv : Inv t) (a : An) :
    Calls Tryz.prog 40 #[v, .agg a.enc.toArray] w fun e w' => StepPost2 w (sDecided t a).1 (sDecided t a).2 e w' := by
  have hC := fun (W : World) (hf : Fr N0 w W) => rcheck_any W v t (h.fr0 hf) hv 4 4
  obtain ⟨vw, vk, vn, vg, vl, rfl, h⟩ := h
  obtain ⟨⟨aw, cw, rfl⟩, ⟨ak, ck, rfl⟩, ⟨an, cn, rfl⟩, ⟨ag, cg, rfl⟩, ⟨al, cl, rfl⟩⟩ := h.shapes
  have HT := Lib.hid h
  clear h hv
  obtain ⟨ph, st, cm, ws, ks, ns, gs, ls, fl⟩ := t
  obtain ⟨ac, af, am, tp, tg, tt, ta, tu⟩ := a
  unfold sDecided An.enc
  simp only [or_self] at hC HT ⊢
  by_cases hp : ph = 4
  · rw [if_neg (by simp [hp])]
    simp only [if_pos hp] at hC
    have HC := Lib.hid hC
    obtain rfl := hp
    clear hC
    by_cases hbad : ac ≠ 0 ∨ am ≠ 0 ∧ am ≤ st
    · rw [if_pos hbad]
      have hcs : (ac != 0) = true ∨ (ac != 0) = false ∧ (am != 0) = true ∧ decide (am ≤ st) = true := by
        by_cases h1 : ac = 0
        · have := hbad.resolve_left (fun h => h h1)
          exact .inr ⟨by simpa using h1, by simpa using this.1, by simpa using this.2⟩
        · exact .inl (by simpa using h1)
      clear hbad HT
      rcases hcs with hd | ⟨hd, hd2, hd3⟩
      all_goals
        go_enter Tryz.func40, Tryz.ntmps40
        go_wp2_with (go_at_call 75; go_loud (refine (HC.out _ (by repeat (first | exact Fr.refl _ _ | assumption | refine Fr.alloc ?_ _ | refine Fr.drew ?_ | refine Fr.drewN ?_ _ | refine Fr.setCell ?_ (.inr (by simp; try omega)) _))).mono ?_); rintro e w1 ⟨rfl, hf1⟩; have hb0 := hf1.held w.heap.size (blk0 (blk0 (blkN (by simp)))); obtain ⟨m0, n0, l0⟩ := box_cells hb0; have hb1 := hf1.held (w.heap.size + 1) (blk0 (blkN (by simp))); obtain ⟨m1, n1, l1⟩ := box_cells hb1; have hb2 := hf1.held (w.heap.size + 2) (blkN (by simp)); obtain ⟨m2, n2, l2⟩ := box_cells hb2; have HBR := Lib.hid hb2; clear hb0 hb1 hb2)
        (try simp only [Exit.inBlock, Exit.then])
        have hF := ((((Fr.refl N0 w).alloc _).alloc _).alloc _).then0 hf1
        refine bodyPost_ret_by (results_row2 rfl _ _ (w.heap.size + 2) 32 _ (0, 0) _ rfl (txn_box_set HBR.out) rfl Tryz.underlying32 rfl sizeTxn) rfl ?_
        exact (told_nums (by omega) HBR.out hF).step2

    · rw [if_neg hbad]
      have hcs : (ac != 0) = false ∧ ((am != 0) = false ∨ (am != 0) = true ∧ decide (am ≤ st) = false) := by
        refine ⟨by simpa using fun h => hbad (.inl h), ?_⟩
        by_cases h1 : am = 0
        · exact .inl (by simpa using h1)
        · exact .inr ⟨by simpa using h1, by simpa using fun h => hbad (.inr ⟨h1, h⟩)⟩
      clear hbad
      obtain ⟨hd, hcs⟩ := hcs
      rcases hcs with hd2 | ⟨hd2, hd3⟩
      all_goals
        go_enter Tryz.func40, Tryz.ntmps40
        go_wp2_with (go_at_call 75; go_loud (refine (HC.out _ (by repeat (first | exact Fr.refl _ _ | assumption | refine Fr.alloc ?_ _ | refine Fr.drew ?_ | refine Fr.drewN ?_ _ | refine Fr.setCell ?_ (.inr (by simp; try omega)) _))).mono ?_); rintro e w1 ⟨rfl, hf1⟩; have hb0 := hf1.held w.heap.size (blk0 (blk0 (blkN (by simp)))); obtain ⟨m0, n0, l0⟩ := box_cells hb0; have hb1 := hf1.held (w.heap.size + 1) (blk0 (blkN (by simp))); obtain ⟨m1, n1, l1⟩ := box_cells hb1; have hb2 := hf1.held (w.heap.size + 2) (blkN (by simp)); obtain ⟨m2, n2, l2⟩ := box_cells hb2; have HBR := Lib.hid hb2; clear hb0 hb1 hb2)
        (try simp only [Exit.inBlock, Exit.then])
        have hF := ((((Fr.refl N0 w).alloc _).alloc _).alloc _).then0 hf1
        refine bodyPost_ret_by (results_row2 rfl _ _ (w.heap.size + 2) 32 _ (0, 0) _ rfl (blk0 (txn_box_set HBR.out)) rfl Tryz.underlying32 rfl sizeTxn) rfl ?_
        exact ((told_store (t := ⟨5, st, am, ws, ks, ns, gs, gs, false⟩) (by omega) HBR.out (dull_txn _ _ _ _ _ _ _ _ _ _ _ _ _ _ _ _ _ _ _) (IsTxn.fr0 (w := w) ⟨_, _, _, _, _, rfl, ⟨HT.out.ws, HT.out.ks, HT.out.ns, HT.out.gs, HT.out.gs, HT.out.n0⟩⟩ hF) (outs_nil _) hF).alloc _).step2
  · rw [if_pos hp]
    simp only [if_neg hp] at hC
    have HC := Lib.hid hC
    clear hC hp HT
    go_enter Tryz.func40, Tryz.ntmps40
    go_wp2_with (go_at_call 75; go_loud (refine (HC.out _ (by repeat (first | exact Fr.refl _ _ | assumption | refine Fr.alloc ?_ _ | refine Fr.drew ?_ | refine Fr.drewN ?_ _ | refine Fr.setCell ?_ (.inr (by simp; try omega)) _))).mono ?_); rintro e w1 ⟨rfl, hf1⟩; have hb0 := hf1.held w.heap.size (blk0 (blk0 (blkN (by simp)))); obtain ⟨m0, n0, l0⟩ := box_cells hb0; have hb1 := hf1.held (w.heap.size + 1) (blk0 (blkN (by simp))); obtain ⟨m1, n1, l1⟩ := box_cells hb1; have hb2 := hf1.held (w.heap.size + 2) (blkN (by simp)); obtain ⟨m2, n2, l2⟩ := box_cells hb2; have HBR := Lib.hid hb2; clear hb0 hb1 hb2)
    (try simp only [Exit.inBlock, Exit.then])
    have hF := ((((Fr.refl N0 w).alloc _).alloc _).alloc _).then0 hf1
    refine bodyPost_ret_by (results_row2 rfl _ _ (w.heap.size + 2) 32 _ (0, 0) _ rfl (txn_box_set HBR.out) rfl Tryz.underlying32 rfl sizeTxn) rfl ?_
    exact (told_nums (by omega) HBR.out hF).step2

end Go.Proofs.YthidminepegnoaaGreatDoor
