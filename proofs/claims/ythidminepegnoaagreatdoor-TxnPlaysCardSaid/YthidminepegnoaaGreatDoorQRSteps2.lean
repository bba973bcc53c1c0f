/- The document's steps: Staged, Finaled. -/
import Derived.Test.YthidminepegnoaaGreatDoorQPStaged
import Derived.Test.YthidminepegnoaaGreatDoorQRSteps
import Derived.Test.YthidminepegnoaaGreatDoorQWrites
namespace Go.Proofs.YthidminepegnoaaGreatDoor
open Go.RowKit Go.Shelf Go.Maps Go.Sort
attribute [local go_sem] Oper.semAt_some
attribute [local irreducible] wpQuiet
set_option linter.unusedVariables false
set_option linter.unusedSimpArgs false

theorem ints_form {w : World} {b : Nat} {k : IntKind} {v : Value} {xs : List Int} (h : Ints k w b v xs) : ∃ a c, v = .slice a xs.length c := by
  obtain ⟨a, _, c, e, _⟩ := h; exact ⟨a, c, e⟩

set_option maxRecDepth 100000 in
set_option maxHeartbeats 2000000 in
theorem rStaged_no (w : World) (v : Value) (t : Txn) (h : IsTxn w v t) (hv : Inv t) (g code : Int) (hn : t.phase ≠ 3 ∨ g ∉ t.left) :
    Calls Tryz.prog 39 #[v, .int .u32 g, .int .i64 code] w fun e w' => StepPost2 w {} (if t.phase ≠ 3 then 3 else 5) e w' := by
  have hC := fun (W : World) (hf : Fr N0 w W) => rcheck_any W v t (h.fr0 hf) hv 3 3
  have hlf := hv.fewLeft
  obtain ⟨vw, vk, vn, vg, vl, rfl, h⟩ := h
  obtain ⟨⟨aw, cw, rfl⟩, ⟨ak, ck, rfl⟩, ⟨an, cn, rfl⟩, ⟨ag, cg, rfl⟩, ⟨al, cl, rfl⟩⟩ := h.shapes
  obtain ⟨bl, hl⟩ := h.ls
  have hI := fun (W : World) (hf : Fr N0 w W) => ramong_any W bl _ t.left (hl.fr0 hf) g (by omega)
  have hW := fun (W : World) (hf : Fr N0 w W) (k : Nat) => rwithout_any W bl _ t.left (hl.fr0 hf) k (by omega)
  have HT := Lib.hid h
  clear h hv hl hlf
  obtain ⟨ph, st, cm, ws, ks, ns, gs, ls, fl⟩ := t
  simp only [or_self] at hC hI hW HT ⊢
  clear HT hW
  by_cases hp : ph = 3
  · have hg : g ∉ ls := hn.resolve_left (fun h => h hp)
    rw [if_neg (by simp [hp])]
    simp only [if_pos hp] at hC
    rw [place_neg hg] at hI
    have HC := Lib.hid hC; have HI := Lib.hid hI
    clear hC hI hg hn hp
    go_enter Tryz.func39, Tryz.ntmps39
    go_wp2_with (first
      | (go_at_call 75; go_loud (refine (HC.out _ (by repeat (first | exact Fr.refl _ _ | assumption | refine Fr.alloc ?_ _ | refine Fr.drew ?_ | refine Fr.drewN ?_ _ | refine Fr.setCell ?_ (.inr (by simp; try omega)) _))).mono ?_); rintro e w1 ⟨rfl, hf1⟩; have hbt := hf1.held w.heap.size (blk0 (blkN (by simp))); obtain ⟨m0, n0, l0⟩ := box_cells hbt; have hbr := hf1.held (w.heap.size + 1) (blkN (by simp)); obtain ⟨m1, n1, l1⟩ := box_cells hbr; have HBT := Lib.hid hbt; have HBR := Lib.hid hbr; clear hbt hbr)
      | (go_at_call 79; go_loud (refine (HI.out _ (Fr.then0 (by repeat (first | exact Fr.refl _ _ | assumption | refine Fr.alloc ?_ _ | refine Fr.drew ?_ | refine Fr.drewN ?_ _ | refine Fr.setCell ?_ (.inr (by simp; try omega)) _)) hf1)).mono ?_); rintro e w2 ⟨rfl, hf2⟩; have hbt := hf2.held w.heap.size HBT.out; obtain ⟨m0', n0', l0'⟩ := box_cells hbt; have hbr := hf2.held (w.heap.size + 1) HBR.out; obtain ⟨m1', n1', l1'⟩ := box_cells hbr; have HBT2 := Lib.hid hbt; have HBR2 := Lib.hid hbr; clear hbt hbr))
    (try simp only [Exit.inBlock, Exit.then])
    have hF := (((Fr.refl N0 w).alloc _ |>.alloc _).then0 hf1).then0 hf2
    refine bodyPost_ret_by (results_row2 rfl _ _ (w.heap.size + 1) 32 _ (0, 0) _ rfl (txn_box_set HBR2.out) rfl Tryz.underlying32 rfl sizeTxn) rfl ?_
    exact (told_nums (by omega) HBR2.out hF).step2
  · rw [if_pos hp]
    simp only [if_neg hp] at hC
    have HC := Lib.hid hC
    clear hC hI hp hn
    go_enter Tryz.func39, Tryz.ntmps39
    go_wp2_with (go_at_call 75; go_loud (refine (HC.out _ (by repeat (first | exact Fr.refl _ _ | assumption | refine Fr.alloc ?_ _ | refine Fr.drew ?_ | refine Fr.drewN ?_ _ | refine Fr.setCell ?_ (.inr (by simp; try omega)) _))).mono ?_); rintro e w1 ⟨rfl, hf1⟩; have hbt := hf1.held w.heap.size (blk0 (blkN (by simp))); obtain ⟨m0, n0, l0⟩ := box_cells hbt; have hbr := hf1.held (w.heap.size + 1) (blkN (by simp)); obtain ⟨m1, n1, l1⟩ := box_cells hbr; have HBT := Lib.hid hbt; have HBR := Lib.hid hbr; clear hbt hbr)
    (try simp only [Exit.inBlock, Exit.then])
    have hF := ((Fr.refl N0 w).alloc _ |>.alloc _).then0 hf1
    refine bodyPost_ret_by (results_row2 rfl _ _ (w.heap.size + 1) 32 _ (0, 0) _ rfl (txn_box_set HBR.out) rfl Tryz.underlying32 rfl sizeTxn) rfl ?_
    exact (told_nums (by omega) HBR.out hF).step2

set_option maxRecDepth 100000 in
set_option maxHeartbeats 2000000 in
theorem rStaged_yes (w : World) (v : Value) (t : Txn) (h : IsTxn w v t) (hv : Inv t) (g code : Int) (hp : t.phase = 3) (hg : g ∈ t.left) :
    Calls Tryz.prog 39 #[v, .int .u32 g, .int .i64 code] w fun e w' => StepPost2 w { t with left := t.left.erase g, failed := t.failed || decide (code ≠ 0), phase := if t.left.erase g = [] then 4 else 3 } 0 e w' := by
  have hC := fun (W : World) (hf : Fr N0 w W) => rcheck_any W v t (h.fr0 hf) hv 3 3
  have hlf := hv.fewLeft
  obtain ⟨vw, vk, vn, vg, vl, rfl, h⟩ := h
  obtain ⟨⟨aw, cw, rfl⟩, ⟨ak, ck, rfl⟩, ⟨an, cn, rfl⟩, ⟨ag, cg, rfl⟩, ⟨al, cl, rfl⟩⟩ := h.shapes
  obtain ⟨bl, hl⟩ := h.ls
  have hI := fun (W : World) (hf : Fr N0 w W) => ramong_any W bl _ t.left (hl.fr0 hf) g (by omega)
  have hW := fun (W : World) (hf : Fr N0 w W) (k : Nat) => rwithout_any W bl _ t.left (hl.fr0 hf) k (by omega)
  have HT := Lib.hid h
  clear h hv hl hlf
  obtain ⟨ph, st, cm, ws, ks, ns, gs, ls, fl⟩ := t
  simp only [or_self] at hC hI hW HT ⊢
  obtain ⟨k, hk, hpl, her⟩ := erase_place hg
  simp only [if_pos hp] at hC
  rw [hpl] at hI
  rw [her]
  have hW := fun W hf => hW W hf k
  obtain ⟨es, hes⟩ : ∃ es, ls.eraseIdx k = es := ⟨_, rfl⟩
  rw [hes] at hW ⊢
  obtain ⟨f2, hf2⟩ : ∃ f2, (fl || decide (code ≠ 0)) = f2 := ⟨_, rfl⟩
  have hcs : (fl = true ∧ f2 = true) ∨ (fl = false ∧ (code != 0) = f2) := by
    rw [← hf2]; cases fl
    · exact .inr ⟨rfl, by by_cases h : code = 0 <;> simp [h]⟩
    · exact .inl ⟨rfl, rfl⟩
  rw [hf2]
  have hcs2 : (es = [] ∧ ((es.length : Int) == 0) = true) ∨ (es ≠ [] ∧ ((es.length : Int) == 0) = false) := by
    cases es
    · exact .inl ⟨rfl, rfl⟩
    · exact .inr ⟨by simp, by simp; omega⟩
  have HC := Lib.hid hC; have HI := Lib.hid hI; have HW := Lib.hid hW
  obtain rfl := hp
  clear hC hI hW hg hpl her hes hk hf2
  rcases hcs2 with ⟨he, hd2⟩ | ⟨he, hd2⟩
  · simp only [if_pos he]
    have HE := Lib.hid he
    clear he
    rcases hcs with ⟨rfl, rfl⟩ | ⟨rfl, hd⟩
    · skip
      go_enter Tryz.func39, Tryz.ntmps39
      go_wp2_with (first
        | (go_at_call 75; go_loud (refine (HC.out _ (by repeat (first | exact Fr.refl _ _ | assumption | refine Fr.alloc ?_ _ | refine Fr.drew ?_ | refine Fr.drewN ?_ _ | refine Fr.setCell ?_ (.inr (by simp; try omega)) _))).mono ?_); rintro e w1 ⟨rfl, hf1⟩; have hbt := hf1.held w.heap.size (blk0 (blkN (by simp))); obtain ⟨m0, n0, l0⟩ := box_cells hbt; have hbr := hf1.held (w.heap.size + 1) (blkN (by simp)); obtain ⟨m1, n1, l1⟩ := box_cells hbr; have HBT := Lib.hid hbt; have HBR := Lib.hid hbr; clear hbt hbr)
        | (go_at_call 79; go_loud (refine (HI.out _ (Fr.then0 (by repeat (first | exact Fr.refl _ _ | assumption | refine Fr.alloc ?_ _ | refine Fr.drew ?_ | refine Fr.drewN ?_ _ | refine Fr.setCell ?_ (.inr (by simp; try omega)) _)) hf1)).mono ?_); rintro e w2 ⟨rfl, hf2⟩; have hbt := hf2.held w.heap.size HBT.out; obtain ⟨m0', n0', l0'⟩ := box_cells hbt; have hbr := hf2.held (w.heap.size + 1) HBR.out; obtain ⟨m1', n1', l1'⟩ := box_cells hbr; have HBT2 := Lib.hid hbt; have HBR2 := Lib.hid hbr; clear hbt hbr)
        | (go_at_call 80; go_loud (refine (HW.out _ (Fr.then0 (Fr.then0 (by repeat (first | exact Fr.refl _ _ | assumption | refine Fr.alloc ?_ _ | refine Fr.drew ?_ | refine Fr.drewN ?_ _ | refine Fr.setCell ?_ (.inr (by simp; try omega)) _)) hf1) hf2 |>.alloc _)).mono ?_); rintro e w3 ⟨v3, b3, rfl, hi3, hf3⟩; have hbt := hf3.held w.heap.size (blk0 HBT2.out); obtain ⟨m0'', n0'', l0''⟩ := box_cells hbt; have hbr := hf3.held (w.heap.size + 1) (blk0 HBR2.out); obtain ⟨m1'', n1'', l1''⟩ := box_cells hbr; have hbx := hf3.held w2.heap.size (blkN rfl); obtain ⟨m3, n3, l3⟩ := box_cells hbx; have HBR3 := Lib.hid hbr; have HBX := Lib.hid hbx; have HBT3 := Lib.hid hbt; clear hbt hbr hbx; obtain ⟨al2, cl2, rfl⟩ := ints_form hi3; have HI3 := Lib.hid hi3; clear hi3))
      (try simp only [Exit.inBlock, Exit.then])
      have hF := ((((Fr.refl N0 w).alloc _ |>.alloc _).then0 hf1).then0 hf2 |>.alloc _).then0 hf3
      have hT0 := HT.out.fr0 hF
      have hX := left_end (es := es) (f2 := true) HBR3.out HBX.out ⟨hT0.ws, hT0.ks, hT0.ns, hT0.gs, ⟨b3, HI3.out⟩, hT0.n0⟩ hF (by omega) (by omega)
      replace hX := hX.set (dull_txn _ _ _ _ _ _ _ _ _ _ _ _ _ _ _ _ _ _ _) (by omega) (by omega) 0 (.int .u8 4)
      simp only [List.setIfInBounds_toArray, List.set_cons_zero, List.set_cons_succ] at hX
      obtain ⟨hz, ht, hTx, hf0⟩ := hX
      refine bodyPost_ret_by (results_row2 rfl _ _ (w.heap.size + 1) 32 _ (0, 0) _ rfl (txn_box_set hz) rfl Tryz.underlying32 rfl sizeTxn) rfl ?_
      exact (told_store (t := ⟨4, st, cm, ws, ks, ns, gs, es, true⟩) (by omega) hz (dull_txn _ _ _ _ _ _ _ _ _ _ _ _ _ _ _ _ _ _ _) ⟨_, _, _, _, _, rfl, ⟨hTx.ws, hTx.ks, hTx.ns, hTx.gs, hTx.ls, hTx.n0⟩⟩ (outs_nil _) hf0).step2
    · skip
      go_enter Tryz.func39, Tryz.ntmps39
      go_wp2_with (first
        | (go_at_call 75; go_loud (refine (HC.out _ (by repeat (first | exact Fr.refl _ _ | assumption | refine Fr.alloc ?_ _ | refine Fr.drew ?_ | refine Fr.drewN ?_ _ | refine Fr.setCell ?_ (.inr (by simp; try omega)) _))).mono ?_); rintro e w1 ⟨rfl, hf1⟩; have hbt := hf1.held w.heap.size (blk0 (blkN (by simp))); obtain ⟨m0, n0, l0⟩ := box_cells hbt; have hbr := hf1.held (w.heap.size + 1) (blkN (by simp)); obtain ⟨m1, n1, l1⟩ := box_cells hbr; have HBT := Lib.hid hbt; have HBR := Lib.hid hbr; clear hbt hbr)
        | (go_at_call 79; go_loud (refine (HI.out _ (Fr.then0 (by repeat (first | exact Fr.refl _ _ | assumption | refine Fr.alloc ?_ _ | refine Fr.drew ?_ | refine Fr.drewN ?_ _ | refine Fr.setCell ?_ (.inr (by simp; try omega)) _)) hf1)).mono ?_); rintro e w2 ⟨rfl, hf2⟩; have hbt := hf2.held w.heap.size HBT.out; obtain ⟨m0', n0', l0'⟩ := box_cells hbt; have hbr := hf2.held (w.heap.size + 1) HBR.out; obtain ⟨m1', n1', l1'⟩ := box_cells hbr; have HBT2 := Lib.hid hbt; have HBR2 := Lib.hid hbr; clear hbt hbr)
        | (go_at_call 80; go_loud (refine (HW.out _ (Fr.then0 (Fr.then0 (by repeat (first | exact Fr.refl _ _ | assumption | refine Fr.alloc ?_ _ | refine Fr.drew ?_ | refine Fr.drewN ?_ _ | refine Fr.setCell ?_ (.inr (by simp; try omega)) _)) hf1) hf2 |>.alloc _)).mono ?_); rintro e w3 ⟨v3, b3, rfl, hi3, hf3⟩; have hbt := hf3.held w.heap.size (blk0 HBT2.out); obtain ⟨m0'', n0'', l0''⟩ := box_cells hbt; have hbr := hf3.held (w.heap.size + 1) (blk0 HBR2.out); obtain ⟨m1'', n1'', l1''⟩ := box_cells hbr; have hbx := hf3.held w2.heap.size (blkN rfl); obtain ⟨m3, n3, l3⟩ := box_cells hbx; have HBR3 := Lib.hid hbr; have HBX := Lib.hid hbx; have HBT3 := Lib.hid hbt; clear hbt hbr hbx; obtain ⟨al2, cl2, rfl⟩ := ints_form hi3; have HI3 := Lib.hid hi3; clear hi3))
      (try simp only [Exit.inBlock, Exit.then])
      have hF := ((((Fr.refl N0 w).alloc _ |>.alloc _).then0 hf1).then0 hf2 |>.alloc _).then0 hf3
      have hT0 := HT.out.fr0 hF
      have hX := left_end (es := es) (f2 := f2) HBR3.out HBX.out ⟨hT0.ws, hT0.ks, hT0.ns, hT0.gs, ⟨b3, HI3.out⟩, hT0.n0⟩ hF (by omega) (by omega)
      replace hX := hX.set (dull_txn _ _ _ _ _ _ _ _ _ _ _ _ _ _ _ _ _ _ _) (by omega) (by omega) 0 (.int .u8 4)
      simp only [List.setIfInBounds_toArray, List.set_cons_zero, List.set_cons_succ] at hX
      obtain ⟨hz, ht, hTx, hf0⟩ := hX
      refine bodyPost_ret_by (results_row2 rfl _ _ (w.heap.size + 1) 32 _ (0, 0) _ rfl (txn_box_set hz) rfl Tryz.underlying32 rfl sizeTxn) rfl ?_
      exact (told_store (t := ⟨4, st, cm, ws, ks, ns, gs, es, f2⟩) (by omega) hz (dull_txn _ _ _ _ _ _ _ _ _ _ _ _ _ _ _ _ _ _ _) ⟨_, _, _, _, _, rfl, ⟨hTx.ws, hTx.ks, hTx.ns, hTx.gs, hTx.ls, hTx.n0⟩⟩ (outs_nil _) hf0).step2
  · simp only [if_neg he]
    have HE := Lib.hid he
    clear he
    rcases hcs with ⟨rfl, rfl⟩ | ⟨rfl, hd⟩
    · skip
      go_enter Tryz.func39, Tryz.ntmps39
      go_wp2_with (first
        | (go_at_call 75; go_loud (refine (HC.out _ (by repeat (first | exact Fr.refl _ _ | assumption | refine Fr.alloc ?_ _ | refine Fr.drew ?_ | refine Fr.drewN ?_ _ | refine Fr.setCell ?_ (.inr (by simp; try omega)) _))).mono ?_); rintro e w1 ⟨rfl, hf1⟩; have hbt := hf1.held w.heap.size (blk0 (blkN (by simp))); obtain ⟨m0, n0, l0⟩ := box_cells hbt; have hbr := hf1.held (w.heap.size + 1) (blkN (by simp)); obtain ⟨m1, n1, l1⟩ := box_cells hbr; have HBT := Lib.hid hbt; have HBR := Lib.hid hbr; clear hbt hbr)
        | (go_at_call 79; go_loud (refine (HI.out _ (Fr.then0 (by repeat (first | exact Fr.refl _ _ | assumption | refine Fr.alloc ?_ _ | refine Fr.drew ?_ | refine Fr.drewN ?_ _ | refine Fr.setCell ?_ (.inr (by simp; try omega)) _)) hf1)).mono ?_); rintro e w2 ⟨rfl, hf2⟩; have hbt := hf2.held w.heap.size HBT.out; obtain ⟨m0', n0', l0'⟩ := box_cells hbt; have hbr := hf2.held (w.heap.size + 1) HBR.out; obtain ⟨m1', n1', l1'⟩ := box_cells hbr; have HBT2 := Lib.hid hbt; have HBR2 := Lib.hid hbr; clear hbt hbr)
        | (go_at_call 80; go_loud (refine (HW.out _ (Fr.then0 (Fr.then0 (by repeat (first | exact Fr.refl _ _ | assumption | refine Fr.alloc ?_ _ | refine Fr.drew ?_ | refine Fr.drewN ?_ _ | refine Fr.setCell ?_ (.inr (by simp; try omega)) _)) hf1) hf2 |>.alloc _)).mono ?_); rintro e w3 ⟨v3, b3, rfl, hi3, hf3⟩; have hbt := hf3.held w.heap.size (blk0 HBT2.out); obtain ⟨m0'', n0'', l0''⟩ := box_cells hbt; have hbr := hf3.held (w.heap.size + 1) (blk0 HBR2.out); obtain ⟨m1'', n1'', l1''⟩ := box_cells hbr; have hbx := hf3.held w2.heap.size (blkN rfl); obtain ⟨m3, n3, l3⟩ := box_cells hbx; have HBR3 := Lib.hid hbr; have HBX := Lib.hid hbx; have HBT3 := Lib.hid hbt; clear hbt hbr hbx; obtain ⟨al2, cl2, rfl⟩ := ints_form hi3; have HI3 := Lib.hid hi3; clear hi3))
      (try simp only [Exit.inBlock, Exit.then])
      have hF := ((((Fr.refl N0 w).alloc _ |>.alloc _).then0 hf1).then0 hf2 |>.alloc _).then0 hf3
      have hT0 := HT.out.fr0 hF
      have hX := left_end (es := es) (f2 := true) HBR3.out HBX.out ⟨hT0.ws, hT0.ks, hT0.ns, hT0.gs, ⟨b3, HI3.out⟩, hT0.n0⟩ hF (by omega) (by omega)
      obtain ⟨hz, ht, hTx, hf0⟩ := hX
      refine bodyPost_ret_by (results_row2 rfl _ _ (w.heap.size + 1) 32 _ (0, 0) _ rfl (txn_box_set hz) rfl Tryz.underlying32 rfl sizeTxn) rfl ?_
      exact (told_store (t := ⟨3, st, cm, ws, ks, ns, gs, es, true⟩) (by omega) hz (dull_txn _ _ _ _ _ _ _ _ _ _ _ _ _ _ _ _ _ _ _) ⟨_, _, _, _, _, rfl, ⟨hTx.ws, hTx.ks, hTx.ns, hTx.gs, hTx.ls, hTx.n0⟩⟩ (outs_nil _) hf0).step2
    · skip
      go_enter Tryz.func39, Tryz.ntmps39
      go_wp2_with (first
        | (go_at_call 75; go_loud (refine (HC.out _ (by repeat (first | exact Fr.refl _ _ | assumption | refine Fr.alloc ?_ _ | refine Fr.drew ?_ | refine Fr.drewN ?_ _ | refine Fr.setCell ?_ (.inr (by simp; try omega)) _))).mono ?_); rintro e w1 ⟨rfl, hf1⟩; have hbt := hf1.held w.heap.size (blk0 (blkN (by simp))); obtain ⟨m0, n0, l0⟩ := box_cells hbt; have hbr := hf1.held (w.heap.size + 1) (blkN (by simp)); obtain ⟨m1, n1, l1⟩ := box_cells hbr; have HBT := Lib.hid hbt; have HBR := Lib.hid hbr; clear hbt hbr)
        | (go_at_call 79; go_loud (refine (HI.out _ (Fr.then0 (by repeat (first | exact Fr.refl _ _ | assumption | refine Fr.alloc ?_ _ | refine Fr.drew ?_ | refine Fr.drewN ?_ _ | refine Fr.setCell ?_ (.inr (by simp; try omega)) _)) hf1)).mono ?_); rintro e w2 ⟨rfl, hf2⟩; have hbt := hf2.held w.heap.size HBT.out; obtain ⟨m0', n0', l0'⟩ := box_cells hbt; have hbr := hf2.held (w.heap.size + 1) HBR.out; obtain ⟨m1', n1', l1'⟩ := box_cells hbr; have HBT2 := Lib.hid hbt; have HBR2 := Lib.hid hbr; clear hbt hbr)
        | (go_at_call 80; go_loud (refine (HW.out _ (Fr.then0 (Fr.then0 (by repeat (first | exact Fr.refl _ _ | assumption | refine Fr.alloc ?_ _ | refine Fr.drew ?_ | refine Fr.drewN ?_ _ | refine Fr.setCell ?_ (.inr (by simp; try omega)) _)) hf1) hf2 |>.alloc _)).mono ?_); rintro e w3 ⟨v3, b3, rfl, hi3, hf3⟩; have hbt := hf3.held w.heap.size (blk0 HBT2.out); obtain ⟨m0'', n0'', l0''⟩ := box_cells hbt; have hbr := hf3.held (w.heap.size + 1) (blk0 HBR2.out); obtain ⟨m1'', n1'', l1''⟩ := box_cells hbr; have hbx := hf3.held w2.heap.size (blkN rfl); obtain ⟨m3, n3, l3⟩ := box_cells hbx; have HBR3 := Lib.hid hbr; have HBX := Lib.hid hbx; have HBT3 := Lib.hid hbt; clear hbt hbr hbx; obtain ⟨al2, cl2, rfl⟩ := ints_form hi3; have HI3 := Lib.hid hi3; clear hi3))
      (try simp only [Exit.inBlock, Exit.then])
      have hF := ((((Fr.refl N0 w).alloc _ |>.alloc _).then0 hf1).then0 hf2 |>.alloc _).then0 hf3
      have hT0 := HT.out.fr0 hF
      have hX := left_end (es := es) (f2 := f2) HBR3.out HBX.out ⟨hT0.ws, hT0.ks, hT0.ns, hT0.gs, ⟨b3, HI3.out⟩, hT0.n0⟩ hF (by omega) (by omega)
      obtain ⟨hz, ht, hTx, hf0⟩ := hX
      refine bodyPost_ret_by (results_row2 rfl _ _ (w.heap.size + 1) 32 _ (0, 0) _ rfl (txn_box_set hz) rfl Tryz.underlying32 rfl sizeTxn) rfl ?_
      exact (told_store (t := ⟨3, st, cm, ws, ks, ns, gs, es, f2⟩) (by omega) hz (dull_txn _ _ _ _ _ _ _ _ _ _ _ _ _ _ _ _ _ _ _) ⟨_, _, _, _, _, rfl, ⟨hTx.ws, hTx.ks, hTx.ns, hTx.gs, hTx.ls, hTx.n0⟩⟩ (outs_nil _) hf0).step2

set_option maxRecDepth 100000 in
set_option maxHeartbeats 2000000 in
theorem rFinaled_no (w : World) (v : Value) (t : Txn) (h : IsTxn w v t) (hv : Inv t) (g code : Int) (hn : t.phase ≠ 5 ∨ g ∉ t.left) :
    Calls Tryz.prog 41 #[v, .int .u32 g, .int .i64 code] w fun e w' => StepPost w {} [] (if t.phase ≠ 5 then 3 else 5) e w' := by
  have hC := fun (W : World) (hf : Fr N0 w W) => rcheck_any W v t (h.fr0 hf) hv 5 5
  have hlf := hv.fewLeft
  obtain ⟨vw, vk, vn, vg, vl, rfl, h⟩ := h
  obtain ⟨⟨aw, cw, rfl⟩, ⟨ak, ck, rfl⟩, ⟨an, cn, rfl⟩, ⟨ag, cg, rfl⟩, ⟨al, cl, rfl⟩⟩ := h.shapes
  obtain ⟨bl, hl⟩ := h.ls
  have hI := fun (W : World) (hf : Fr N0 w W) => ramong_any W bl _ t.left (hl.fr0 hf) g (by omega)
  have hW := fun (W : World) (hf : Fr N0 w W) (k : Nat) => rwithout_any W bl _ t.left (hl.fr0 hf) k (by omega)
  have HT := Lib.hid h
  clear h hv hl hlf
  obtain ⟨ph, st, cm, ws, ks, ns, gs, ls, fl⟩ := t
  simp only [or_self] at hC hI hW HT ⊢
  clear HT hW
  by_cases hp : ph = 5
  · have hg : g ∉ ls := hn.resolve_left (fun h => h hp)
    rw [if_neg (by simp [hp])]
    simp only [if_pos hp] at hC
    rw [place_neg hg] at hI
    have HC := Lib.hid hC; have HI := Lib.hid hI
    clear hC hI hg hn hp
    go_enter Tryz.func41, Tryz.ntmps41
    go_wp2_with (first
      | (go_at_call 75; go_loud (refine (HC.out _ (by repeat (first | exact Fr.refl _ _ | assumption | refine Fr.alloc ?_ _ | refine Fr.drew ?_ | refine Fr.drewN ?_ _ | refine Fr.setCell ?_ (.inr (by simp; try omega)) _))).mono ?_); rintro e w1 ⟨rfl, hf1⟩; have hbt := hf1.held w.heap.size (blk0 (blkN (by simp))); obtain ⟨m0, n0, l0⟩ := box_cells hbt; have hbr := hf1.held (w.heap.size + 1) (blkN (by simp)); obtain ⟨m1, n1, l1⟩ := box_cells hbr; have HBT := Lib.hid hbt; have HBR := Lib.hid hbr; clear hbt hbr)
      | (go_at_call 79; go_loud (refine (HI.out _ (Fr.then0 (by repeat (first | exact Fr.refl _ _ | assumption | refine Fr.alloc ?_ _ | refine Fr.drew ?_ | refine Fr.drewN ?_ _ | refine Fr.setCell ?_ (.inr (by simp; try omega)) _)) hf1)).mono ?_); rintro e w2 ⟨rfl, hf2⟩; have hbt := hf2.held w.heap.size HBT.out; obtain ⟨m0', n0', l0'⟩ := box_cells hbt; have hbr := hf2.held (w.heap.size + 1) HBR.out; obtain ⟨m1', n1', l1'⟩ := box_cells hbr; have HBT2 := Lib.hid hbt; have HBR2 := Lib.hid hbr; clear hbt hbr))
    (try simp only [Exit.inBlock, Exit.then])
    have hF := (((Fr.refl N0 w).alloc _ |>.alloc _).then0 hf1).then0 hf2
    refine bodyPost_ret_by (results_row3 rfl _ _ (w.heap.size + 1) 32 _ (0, 0) _ rfl (txn_box_set HBR2.out) rfl rfl Tryz.underlying32 rfl sizeTxn) rfl ?_
    exact (told_nums (by omega) HBR2.out hF).step
  · rw [if_pos hp]
    simp only [if_neg hp] at hC
    have HC := Lib.hid hC
    clear hC hI hp hn
    go_enter Tryz.func41, Tryz.ntmps41
    go_wp2_with (go_at_call 75; go_loud (refine (HC.out _ (by repeat (first | exact Fr.refl _ _ | assumption | refine Fr.alloc ?_ _ | refine Fr.drew ?_ | refine Fr.drewN ?_ _ | refine Fr.setCell ?_ (.inr (by simp; try omega)) _))).mono ?_); rintro e w1 ⟨rfl, hf1⟩; have hbt := hf1.held w.heap.size (blk0 (blkN (by simp))); obtain ⟨m0, n0, l0⟩ := box_cells hbt; have hbr := hf1.held (w.heap.size + 1) (blkN (by simp)); obtain ⟨m1, n1, l1⟩ := box_cells hbr; have HBT := Lib.hid hbt; have HBR := Lib.hid hbr; clear hbt hbr)
    (try simp only [Exit.inBlock, Exit.then])
    have hF := ((Fr.refl N0 w).alloc _ |>.alloc _).then0 hf1
    refine bodyPost_ret_by (results_row3 rfl _ _ (w.heap.size + 1) 32 _ (0, 0) _ rfl (txn_box_set HBR.out) rfl rfl Tryz.underlying32 rfl sizeTxn) rfl ?_
    exact (told_nums (by omega) HBR.out hF).step

set_option maxRecDepth 100000 in
set_option maxHeartbeats 4000000 in
theorem rFinaled_yes (w : World) (v : Value) (t : Txn) (h : IsTxn w v t) (hv : Inv t) (g code : Int) (hp : t.phase = 5) (hg : g ∈ t.left) :
    Calls Tryz.prog 41 #[v, .int .u32 g, .int .i64 code] w fun e w' => StepPost w (if code ≠ 0 then t else if t.left.erase g = [] then { phase := 6, start := t.start, commit := t.commit, writes := t.writes, keys := t.keys } else { t with left := t.left.erase g }) (if code ≠ 0 then [{ group := g, skind := 3, sstart := t.start, scommit := t.commit }] else []) 0 e w' := by
  have hC := fun (W : World) (hf : Fr N0 w W) => rcheck_any W v t (h.fr0 hf) hv 5 5
  have hlf := hv.fewLeft
  obtain ⟨vw, vk, vn, vg, vl, rfl, h⟩ := h
  obtain ⟨⟨aw, cw, rfl⟩, ⟨ak, ck, rfl⟩, ⟨an, cn, rfl⟩, ⟨ag, cg, rfl⟩, ⟨al, cl, rfl⟩⟩ := h.shapes
  obtain ⟨bl, hl⟩ := h.ls
  have hI := fun (W : World) (hf : Fr N0 w W) => ramong_any W bl _ t.left (hl.fr0 hf) g (by omega)
  have hW := fun (W : World) (hf : Fr N0 w W) (k : Nat) => rwithout_any W bl _ t.left (hl.fr0 hf) k (by omega)
  have HT := Lib.hid h
  clear h hv hl hlf
  obtain ⟨ph, st, cm, ws, ks, ns, gs, ls, fl⟩ := t
  simp only [or_self] at hC hI hW HT ⊢
  obtain ⟨k, hk, hpl, her⟩ := erase_place hg
  simp only [if_pos hp] at hC
  rw [hpl] at hI
  rw [her]
  have hW := fun W hf => hW W hf k
  obtain ⟨es, hes⟩ : ∃ es, ls.eraseIdx k = es := ⟨_, rfl⟩
  rw [hes] at hW ⊢
  have hcs2 : (es = [] ∧ ((es.length : Int) == 0) = true) ∨ (es ≠ [] ∧ ((es.length : Int) == 0) = false) := by
    cases es
    · exact .inl ⟨rfl, rfl⟩
    · exact .inr ⟨by simp, by simp; omega⟩
  have HC := Lib.hid hC; have HI := Lib.hid hI; have HW := Lib.hid hW
  obtain rfl := hp
  have hk0 : ¬ (k : Int) < 0 := by omega
  clear hC hI hW hg hpl her hes hk
  by_cases hcode : code = 0
  · obtain rfl := hcode
    rcases hcs2 with ⟨he, hd2⟩ | ⟨he, hd2⟩
    · simp only [if_pos he, ne_eq, not_true, if_false]
      have HE := Lib.hid he
      clear he
      go_enter Tryz.func41, Tryz.ntmps41
      go_wp2_with (first
        | (go_at_call 75; go_loud (refine (HC.out _ (by repeat (first | exact Fr.refl _ _ | assumption | refine Fr.alloc ?_ _ | refine Fr.drew ?_ | refine Fr.drewN ?_ _ | refine Fr.setCell ?_ (.inr (by simp; try omega)) _))).mono ?_); rintro e w1 ⟨rfl, hf1⟩; have hbt := hf1.held w.heap.size (blk0 (blkN (by simp))); obtain ⟨m0, n0, l0⟩ := box_cells hbt; have hbr := hf1.held (w.heap.size + 1) (blkN (by simp)); obtain ⟨m1, n1, l1⟩ := box_cells hbr; have HBT := Lib.hid hbt; have HBR := Lib.hid hbr; clear hbt hbr)
        | (go_at_call 79; go_loud (refine (HI.out _ (Fr.then0 (by repeat (first | exact Fr.refl _ _ | assumption | refine Fr.alloc ?_ _ | refine Fr.drew ?_ | refine Fr.drewN ?_ _ | refine Fr.setCell ?_ (.inr (by simp; try omega)) _)) hf1)).mono ?_); rintro e w2 ⟨rfl, hf2⟩; have hbt := hf2.held w.heap.size HBT.out; obtain ⟨m0', n0', l0'⟩ := box_cells hbt; have hbr := hf2.held (w.heap.size + 1) HBR.out; obtain ⟨m1', n1', l1'⟩ := box_cells hbr; have HBT2 := Lib.hid hbt; have HBR2 := Lib.hid hbr; clear hbt hbr)
        | (go_at_call 80; go_loud (refine (HW.out _ (Fr.then0 (Fr.then0 (by repeat (first | exact Fr.refl _ _ | assumption | refine Fr.alloc ?_ _ | refine Fr.drew ?_ | refine Fr.drewN ?_ _ | refine Fr.setCell ?_ (.inr (by simp; try omega)) _)) hf1) hf2 |>.alloc _)).mono ?_); rintro e w3 ⟨v3, b3, rfl, hi3, hf3⟩; have hbt := hf3.held w.heap.size (blk0 HBT2.out); obtain ⟨m0'', n0'', l0''⟩ := box_cells hbt; have hbr := hf3.held (w.heap.size + 1) (blk0 HBR2.out); obtain ⟨m1'', n1'', l1''⟩ := box_cells hbr; have hbx := hf3.held w2.heap.size (blkN rfl); obtain ⟨m3, n3, l3⟩ := box_cells hbx; have HBR3 := Lib.hid hbr; have HBX := Lib.hid hbx; have HBT3 := Lib.hid hbt; clear hbt hbr hbx; obtain ⟨al2, cl2, rfl⟩ := ints_form hi3; have HI3 := Lib.hid hi3; clear hi3))
      (try simp only [Exit.inBlock, Exit.then])
      have hF := ((((Fr.refl N0 w).alloc _ |>.alloc _).then0 hf1).then0 hf2 |>.alloc _).then0 hf3
      have hT0 := HT.out.fr0 hF
      have h0 : XB w w3 (w.heap.size + 1) w2.heap.size _ (.slice aw ws.length cw) (.slice ak ks.length ck) (.slice an ns.length cn) (.slice ag gs.length cg) (.slice al2 es.length cl2) ⟨5, st, cm, ws, ks, ns, gs, es, fl⟩ := ⟨HBR3.out, HBX.out, ⟨hT0.ws, hT0.ks, hT0.ns, hT0.gs, ⟨b3, HI3.out⟩, hT0.n0⟩, hF⟩
      have hX := h0.set (dull_txn _ _ _ _ _ _ _ _ _ _ _ _ _ _ _ _ _ _ _) (by omega) (by omega) 7 (.slice al2 es.length cl2)
      simp only [List.setIfInBounds_toArray, List.set_cons_zero, List.set_cons_succ] at hX
      obtain ⟨hz, ht, hTx, hf0⟩ := hX
      have hfx := txn_box_fr (v0 := .int .u8 6) (v1 := .int .u64 st) (v2 := .int .u64 cm) (v3 := .slice aw ws.length cw) (v4 := .slice ak ks.length ck) (v5 := .slice none 0 0) (v6 := .slice none 0 0) (v7 := .slice none 0 0) (v8 := .bool false) (Fr.refl (fun k => k = w2.heap.size) (w3.setCell ⟨w2.heap.size, 7, none⟩ (.slice al2 es.length cl2))) (.inl rfl)
      have hz2 := (hfx.at (show ¬ w.heap.size + 1 = w2.heap.size by omega) (lt_of_block hz)).trans hz
      have hT2 := hTx.past ht (dull_txn _ _ _ _ _ _ _ _ _ _ _ _ _ _ _ _ _ _ _) hfx
      have hf2' := hf0.trans hfx fun k hk => .inr (by rw [show k = w2.heap.size from hk]; omega)
      refine bodyPost_ret_by (results_row3 rfl _ _ (w.heap.size + 1) 32 _ (0, 0) _ rfl (txn_box_set hz2) rfl rfl Tryz.underlying32 rfl sizeTxn) rfl ?_
      exact (told_store (t := { phase := 6, start := st, commit := cm, writes := ws, keys := ks }) (by omega) hz2 (dull_txn _ _ _ _ _ _ _ _ _ _ _ _ _ _ _ _ _ _ _) ⟨_, _, _, _, _, rfl, ⟨hT2.ws, hT2.ks, ⟨0, RowsK.nil _ _ _ _⟩, ⟨0, Ints.nil _ _ _⟩, ⟨0, Ints.nil _ _ _⟩, fun _ => rfl⟩⟩ (outs_nil _) hf2').step
    · simp only [if_neg he, ne_eq, not_true, if_false]
      have HE := Lib.hid he
      clear he
      go_enter Tryz.func41, Tryz.ntmps41
      go_wp2_with (first
        | (go_at_call 75; go_loud (refine (HC.out _ (by repeat (first | exact Fr.refl _ _ | assumption | refine Fr.alloc ?_ _ | refine Fr.drew ?_ | refine Fr.drewN ?_ _ | refine Fr.setCell ?_ (.inr (by simp; try omega)) _))).mono ?_); rintro e w1 ⟨rfl, hf1⟩; have hbt := hf1.held w.heap.size (blk0 (blkN (by simp))); obtain ⟨m0, n0, l0⟩ := box_cells hbt; have hbr := hf1.held (w.heap.size + 1) (blkN (by simp)); obtain ⟨m1, n1, l1⟩ := box_cells hbr; have HBT := Lib.hid hbt; have HBR := Lib.hid hbr; clear hbt hbr)
        | (go_at_call 79; go_loud (refine (HI.out _ (Fr.then0 (by repeat (first | exact Fr.refl _ _ | assumption | refine Fr.alloc ?_ _ | refine Fr.drew ?_ | refine Fr.drewN ?_ _ | refine Fr.setCell ?_ (.inr (by simp; try omega)) _)) hf1)).mono ?_); rintro e w2 ⟨rfl, hf2⟩; have hbt := hf2.held w.heap.size HBT.out; obtain ⟨m0', n0', l0'⟩ := box_cells hbt; have hbr := hf2.held (w.heap.size + 1) HBR.out; obtain ⟨m1', n1', l1'⟩ := box_cells hbr; have HBT2 := Lib.hid hbt; have HBR2 := Lib.hid hbr; clear hbt hbr)
        | (go_at_call 80; go_loud (refine (HW.out _ (Fr.then0 (Fr.then0 (by repeat (first | exact Fr.refl _ _ | assumption | refine Fr.alloc ?_ _ | refine Fr.drew ?_ | refine Fr.drewN ?_ _ | refine Fr.setCell ?_ (.inr (by simp; try omega)) _)) hf1) hf2 |>.alloc _)).mono ?_); rintro e w3 ⟨v3, b3, rfl, hi3, hf3⟩; have hbt := hf3.held w.heap.size (blk0 HBT2.out); obtain ⟨m0'', n0'', l0''⟩ := box_cells hbt; have hbr := hf3.held (w.heap.size + 1) (blk0 HBR2.out); obtain ⟨m1'', n1'', l1''⟩ := box_cells hbr; have hbx := hf3.held w2.heap.size (blkN rfl); obtain ⟨m3, n3, l3⟩ := box_cells hbx; have HBR3 := Lib.hid hbr; have HBX := Lib.hid hbx; have HBT3 := Lib.hid hbt; clear hbt hbr hbx; obtain ⟨al2, cl2, rfl⟩ := ints_form hi3; have HI3 := Lib.hid hi3; clear hi3))
      (try simp only [Exit.inBlock, Exit.then])
      have hF := ((((Fr.refl N0 w).alloc _ |>.alloc _).then0 hf1).then0 hf2 |>.alloc _).then0 hf3
      have hT0 := HT.out.fr0 hF
      have h0 : XB w w3 (w.heap.size + 1) w2.heap.size _ (.slice aw ws.length cw) (.slice ak ks.length ck) (.slice an ns.length cn) (.slice ag gs.length cg) (.slice al2 es.length cl2) ⟨5, st, cm, ws, ks, ns, gs, es, fl⟩ := ⟨HBR3.out, HBX.out, ⟨hT0.ws, hT0.ks, hT0.ns, hT0.gs, ⟨b3, HI3.out⟩, hT0.n0⟩, hF⟩
      have hX := h0.set (dull_txn _ _ _ _ _ _ _ _ _ _ _ _ _ _ _ _ _ _ _) (by omega) (by omega) 7 (.slice al2 es.length cl2)
      simp only [List.setIfInBounds_toArray, List.set_cons_zero, List.set_cons_succ] at hX
      obtain ⟨hz, ht, hTx, hf0⟩ := hX
      refine bodyPost_ret_by (results_row3 rfl _ _ (w.heap.size + 1) 32 _ (0, 0) _ rfl (txn_box_set hz) rfl rfl Tryz.underlying32 rfl sizeTxn) rfl ?_
      exact (told_store (t := ⟨5, st, cm, ws, ks, ns, gs, es, fl⟩) (by omega) hz (dull_txn _ _ _ _ _ _ _ _ _ _ _ _ _ _ _ _ _ _ _) ⟨_, _, _, _, _, rfl, ⟨hTx.ws, hTx.ks, hTx.ns, hTx.gs, hTx.ls, hTx.n0⟩⟩ (outs_nil _) hf0).step
  · have hd : (code != 0) = true := by simpa using hcode
    simp only [ne_eq, hcode, not_false_eq_true, if_true]
    clear hcode hcs2 HW
    go_enter Tryz.func41, Tryz.ntmps41
    go_wp2_with (first
      | (go_at_call 75; go_loud (refine (HC.out _ (by repeat (first | exact Fr.refl _ _ | assumption | refine Fr.alloc ?_ _ | refine Fr.drew ?_ | refine Fr.drewN ?_ _ | refine Fr.setCell ?_ (.inr (by simp; try omega)) _))).mono ?_); rintro e w1 ⟨rfl, hf1⟩; have hbt := hf1.held w.heap.size (blk0 (blkN (by simp))); obtain ⟨m0, n0, l0⟩ := box_cells hbt; have hbr := hf1.held (w.heap.size + 1) (blkN (by simp)); obtain ⟨m1, n1, l1⟩ := box_cells hbr; have HBT := Lib.hid hbt; have HBR := Lib.hid hbr; clear hbt hbr)
      | (go_at_call 79; go_loud (refine (HI.out _ (Fr.then0 (by repeat (first | exact Fr.refl _ _ | assumption | refine Fr.alloc ?_ _ | refine Fr.drew ?_ | refine Fr.drewN ?_ _ | refine Fr.setCell ?_ (.inr (by simp; try omega)) _)) hf1)).mono ?_); rintro e w2 ⟨rfl, hf2⟩; have hbt := hf2.held w.heap.size HBT.out; obtain ⟨m0', n0', l0'⟩ := box_cells hbt; have hbr := hf2.held (w.heap.size + 1) HBR.out; obtain ⟨m1', n1', l1'⟩ := box_cells hbr; have HBT2 := Lib.hid hbt; have HBR2 := Lib.hid hbr; clear hbt hbr))
    have hF := (((Fr.refl N0 w).alloc _ |>.alloc _).then0 hf1).then0 hf2
    have HF := Lib.hid hF
    clear hF
    refine Code.wp_mono (Q := Exit.then (Back w (w.heap.size + 1) 6 7 8 #[.int .u8 5, .int .u64 st, .int .u64 cm, .slice aw ws.length cw, .slice ak ks.length ck, .slice an ns.length cn, .slice ag gs.length cg, .slice al ls.length cl, .bool fl] ⟨5, st, cm, ws, ks, ns, gs, ls, fl⟩ [{ group := g, skind := 3, sstart := st, scommit := cm }] 0) (fun _ _ _ => False)) ?_ ?_
    case refine_2 =>
      go_region_with (fail)
      all_goals exact ⟨_, rfl, rfl, rfl, rfl, ((told_store (by omega) HBR2.out (dull_txn _ _ _ _ _ _ _ _ _ _ _ _ _ _ _ _ _ _ _) (IsTxn.fr0 (w := w) ⟨_, _, _, _, _, rfl, HT.out⟩ HF.out) (outs_nil _) HF.out).sent _ (outs_one (r := ⟨g, 0, 0, 0, .slice none 0 0, .slice none 0 0, 3, st, cm, .slice none 0 0⟩) (blkN (by simp)) ⟨⟨rfl, rfl, rfl, rfl, rfl, rfl, rfl⟩, ⟨0, Strs.nil _ _⟩, ⟨0, RowsK.nil _ _ _ _⟩, ⟨0, RowsK.nil _ _ _ _⟩⟩)).drew⟩
    intro e a' W hM
    cases e
    case' normal => skip
    all_goals (try exact (hM : False).elim)
    obtain ⟨vo, d1, d2, d3, d4, hM⟩ := hM
    go_wp2
    (try simp only [Exit.inBlock, Exit.then])
    exact bodyPost_ret_by (results_row3 rfl _ _ (w.heap.size + 1) 32 _ (0, 0) _ d2 hM.1 d3 d4 Tryz.underlying32 rfl sizeTxn) d1 hM.step

theorem rStaged_any (w : World) (v : Value) (t : Txn) (h : IsTxn w v t) (hv : Inv t) (g code : Int) :
    Calls Tryz.prog 39 #[v, .int .u32 g, .int .i64 code] w fun e w' => StepPost2 w (sStaged t g code).1 (sStaged t g code).2 e w' := by
  unfold sStaged
  by_cases hp : t.phase = 3
  · by_cases hg : g ∈ t.left
    · simp only [hp, hg, not_true, ne_eq, if_false]
      exact rStaged_yes w v t h hv g code hp hg
    · simp only [hp, hg, not_true, not_false_eq_true, ne_eq, if_false, if_true]
      have := rStaged_no w v t h hv g code (.inr hg)
      simpa [hp] using this
  · simp only [hp, not_false_eq_true, ne_eq, if_true]
    have := rStaged_no w v t h hv g code (.inl hp)
    simpa [hp] using this
theorem rFinaled_any (w : World) (v : Value) (t : Txn) (h : IsTxn w v t) (hv : Inv t) (g code : Int) :
    Calls Tryz.prog 41 #[v, .int .u32 g, .int .i64 code] w fun e w' => StepPost w (sFinaled t g code).1 (if (sFinaled t g code).2 = 0 ∧ code ≠ 0 then [{ group := g, skind := 3, sstart := t.start, scommit := t.commit }] else []) (sFinaled t g code).2 e w' := by
  unfold sFinaled
  by_cases hp : t.phase = 5
  · by_cases hg : g ∈ t.left
    · have := rFinaled_yes w v t h hv g code hp hg
      by_cases hc : code = 0
      · simp only [hp, hg, hc, not_true, ne_eq, if_false, and_false] at this ⊢
        by_cases he : t.left.erase g = []
        · simp only [he, if_true] at this ⊢; exact this
        · simp only [he, if_false] at this ⊢; exact this
      · simp only [hp, hg, hc, not_true, not_false_eq_true, ne_eq, if_false, if_true, and_true] at this ⊢
        exact this
    · simp only [hp, hg, not_true, not_false_eq_true, ne_eq, if_false, if_true, show ¬ (5 : Int) = 0 by decide, false_and]
      have := rFinaled_no w v t h hv g code (.inr hg)
      simpa [hp] using this
  · simp only [hp, not_false_eq_true, ne_eq, if_true, show ¬ (3 : Int) = 0 by decide, false_and, if_false]
    have := rFinaled_no w v t h hv g code (.inl hp)
    simpa [hp] using this
end Go.Proofs.YthidminepegnoaaGreatDoor
