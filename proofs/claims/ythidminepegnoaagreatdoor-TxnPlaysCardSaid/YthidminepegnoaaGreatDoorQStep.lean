/- The program's Finaled. The program's Started. The program's Decided. The law's step: the program's steps by their numbers. -/
import Derived.Test.YthidminepegnoaaGreatDoorQPStaged
import Derived.Test.YthidminepegnoaaGreatDoorQBegin
import Derived.Test.YthidminepegnoaaGreatDoorQRSteps
import Derived.Test.YthidminepegnoaaGreatDoorQLivesL
import Derived.Test.YthidminepegnoaaGreatDoorQStepS
import Derived.Test.YthidminepegnoaaGreatDoorQPWrite
import Derived.Test.YthidminepegnoaaGreatDoorQLoops
namespace Go.Proofs.YthidminepegnoaaGreatDoor
open Go.RowKit Go.Shelf Go.Maps Go.Sort
attribute [local go_sem] Oper.semAt_some
attribute [local irreducible] wpQuiet
set_option linter.unusedVariables false
set_option linter.unusedSimpArgs false

set_option maxRecDepth 100000 in
set_option maxHeartbeats 2000000 in
/-- .. refused: not the phase. -/
theorem xFinaled_no1 (w : World) (v : Value) (t : Txn) (h : IsTxn w v t) (hv : Inv t) (g code : Int) (hp : t.phase ≠ 5) :
    Calls Tryz.prog 30 #[v, .int .u32 g, .int .i64 code] w fun e w' => StepPost w {} [] 3 e w' := by
  have hC := fun (W : World) (hf : Fr N0 w W) B hB => xcheck1 W v t (h.fr0 hf) hv B 5 (by decide) hB
  obtain ⟨vw, vk, vn, vg, vl, rfl, h⟩ := h
  clear h hv
  obtain ⟨ph, st, cm, ws, ks, ns, gs, ls, fl⟩ := t
  simp only at hp hC
  simp only [if_neg hp] at hC
  have HC := Lib.hid hC
  clear hC hp
  go_enter Tryz.func30, Tryz.ntmps30
  go_wp2_with (go_at_call 62; go_loud (refine (HC.out _ (by repeat (first | exact Fr.refl _ _ | assumption | refine Fr.alloc ?_ _ | refine Fr.drew ?_ | refine Fr.drewN ?_ _ | refine Fr.setCell ?_ (.inr (by simp; try omega)) _)) _ (cell_new1 _ _ _ _ (by simp))).mono ?_); rintro e w1 ⟨rfl, hf1⟩; have hbr := hf1.held (w.heap.size + 1) (blk0 (blkN (by simp))); obtain ⟨m2, n2, l2⟩ := box_cells hbr; have HBR := Lib.hid hbr; clear hbr)
  (try simp only [Exit.inBlock, Exit.then])
  have hF := ((((Fr.refl N0 w).alloc _).alloc _).alloc _).then0 hf1
  refine bodyPost_ret_by (results_row3 rfl _ _ (w.heap.size + 1) 32 _ (0, 0) _ rfl (txn_box_set HBR.out) rfl rfl Tryz.underlying32 rfl sizeTxn) rfl ?_
  exact (told_nums (by omega) HBR.out hF).step

set_option maxRecDepth 100000 in
set_option maxHeartbeats 2000000 in
/-- .. refused: it is not waited for. -/
theorem xFinaled_no2 (w : World) (v : Value) (t : Txn) (h : IsTxn w v t) (hv : Inv t) (g code : Int) (hp : t.phase = 5) (hg : g ∉ t.left) :
    Calls Tryz.prog 30 #[v, .int .u32 g, .int .i64 code] w fun e w' => StepPost w {} [] 5 e w' := by
  have hC := fun (W : World) (hf : Fr N0 w W) B hB => xcheck1 W v t (h.fr0 hf) hv B 5 (by decide) hB
  have hlf := hv.fewLeft
  obtain ⟨vw, vk, vn, vg, vl, rfl, h⟩ := h
  obtain ⟨bl, hl⟩ := h.ls
  have hI := fun (W : World) (hf : Fr N0 w W) => idx3_any W bl vl t.left (hl.fr0 hf) g (by omega)
  rw [place_neg hg] at hI
  clear h hv hl hlf hg
  obtain ⟨ph, st, cm, ws, ks, ns, gs, ls, fl⟩ := t
  simp only at hp hC hI
  simp only [if_pos hp] at hC
  have HC := Lib.hid hC; have HI := Lib.hid hI
  clear hC hp hI
  go_enter Tryz.func30, Tryz.ntmps30
  go_wp2_with (first
    | (go_at_call 62; go_loud (refine (HC.out _ (by repeat (first | exact Fr.refl _ _ | assumption | refine Fr.alloc ?_ _ | refine Fr.drew ?_ | refine Fr.drewN ?_ _ | refine Fr.setCell ?_ (.inr (by simp; try omega)) _)) _ (cell_new1 _ _ _ _ (by simp))).mono ?_); rintro e w1 ⟨rfl, hf1⟩; have hbt := hf1.held w.heap.size (blk0 (blk0 (blkN rfl))); obtain ⟨m0, n0, l0⟩ := box_cells hbt; have hbr := hf1.held (w.heap.size + 1) (blk0 (blkN (by simp))); obtain ⟨m2, n2, l2⟩ := box_cells hbr; have HBR := Lib.hid hbr; clear hbr hbt)
    | (go_at_call 70; go_loud (refine (HI.out _ (Fr.then0 (by repeat (first | exact Fr.refl _ _ | assumption | refine Fr.alloc ?_ _ | refine Fr.drew ?_ | refine Fr.drewN ?_ _ | refine Fr.setCell ?_ (.inr (by simp; try omega)) _)) hf1)).mono ?_); rintro e w2 ⟨rfl, hf2⟩; have hbr := hf2.held (w.heap.size + 1) HBR.out; obtain ⟨m2', n2', l2'⟩ := box_cells hbr; have HBR2 := Lib.hid hbr; clear hbr))
  (try simp only [Exit.inBlock, Exit.then])
  have hF := ((((Fr.refl N0 w).alloc _).alloc _).alloc _).then0 hf1 |>.then0 hf2
  refine bodyPost_ret_by (results_row3 rfl _ _ (w.heap.size + 1) 32 _ (0, 0) _ rfl (txn_box_set HBR2.out) rfl rfl Tryz.underlying32 rfl sizeTxn) rfl ?_
  exact (told_nums (by omega) HBR2.out hF).step

set_option maxRecDepth 100000 in
set_option maxHeartbeats 4000000 in
/-- .. sent again. -/
theorem xFinaled_one (w : World) (v : Value) (t : Txn) (h : IsTxn w v t) (hv : Inv t) (g code : Int) (hp : t.phase = 5) (hg : g ∈ t.left) (hcode : code ≠ 0) :
    Calls Tryz.prog 30 #[v, .int .u32 g, .int .i64 code] w fun e w' => StepPost w t [{ group := g, skind := 3, sstart := t.start, scommit := t.commit }] 0 e w' := by
  have hC := fun (W : World) (hf : Fr N0 w W) B hB => xcheck1 W v t (h.fr0 hf) hv B 5 (by decide) hB
  have hO := fun (W : World) (hf : Fr N0 w W) => xown_any W v t (h.fr0 hf) hv
  have hFin := fun (W : World) (hf : Fr N0 w W) => xfinaled_any W v t (h.fr0 hf) g
  unfold OutV.enc at hFin
  have hlf := hv.fewLeft
  obtain ⟨vw, vk, vn, vg, vl, rfl, h⟩ := h
  obtain ⟨bl, hl⟩ := h.ls
  have hI := fun (W : World) (hf : Fr N0 w W) => idx3_any W bl vl t.left (hl.fr0 hf) g (by omega)
  obtain ⟨k, hk, hpl, her⟩ := erase_place hg
  rw [hpl] at hI
  clear h hv hl hlf hg her hpl
  obtain ⟨ph, st, cm, ws, ks, ns, gs, ls, fl⟩ := t
  simp only at hp hC hI hO hFin hk ⊢
  subst hp
  simp only [if_true] at hC
  have hk0 : ¬ (k : Int) < 0 := by omega
  have hd : (code != 0) = true := by simpa using hcode
  have HC := Lib.hid hC; have HI := Lib.hid hI; have HO := Lib.hid hO; have HFI := Lib.hid hFin
  clear hC hI hO hFin hcode
  go_enter Tryz.func30, Tryz.ntmps30
  go_wp2_with (first
      | (go_at_call 62; go_loud (refine (HC.out _ (by repeat (first | exact Fr.refl _ _ | assumption | refine Fr.alloc ?_ _ | refine Fr.drew ?_ | refine Fr.drewN ?_ _ | refine Fr.setCell ?_ (.inr (by simp; try omega)) _)) _ (cell_new1 _ _ _ _ (by simp))).mono ?_); rintro e w1 ⟨rfl, hf1⟩; have hbt := hf1.held w.heap.size (blk0 (blk0 (blkN rfl))); obtain ⟨m0, n0, l0⟩ := box_cells hbt; have hbr := hf1.held (w.heap.size + 1) (blk0 (blkN (by simp))); obtain ⟨m2, n2, l2⟩ := box_cells hbr; have HBR := Lib.hid hbr; have HBT := Lib.hid hbt; clear hbr hbt)
      | (go_at_call 70; go_loud (refine (HI.out _ (Fr.then0 (by repeat (first | exact Fr.refl _ _ | assumption | refine Fr.alloc ?_ _ | refine Fr.drew ?_ | refine Fr.drewN ?_ _ | refine Fr.setCell ?_ (.inr (by simp; try omega)) _)) hf1)).mono ?_); rintro e w2 ⟨rfl, hf2⟩; have hbt := hf2.held w.heap.size HBT.out; obtain ⟨m0', n0', l0'⟩ := box_cells hbt; have hbr := hf2.held (w.heap.size + 1) HBR.out; obtain ⟨m2', n2', l2'⟩ := box_cells hbr; have HBR2 := Lib.hid hbr; have HBT2 := Lib.hid hbt; clear hbr hbt)
      | (go_at_call 65; go_loud (refine (HO.out _ (Fr.then0 (Fr.then0 (by repeat (first | exact Fr.refl _ _ | assumption | refine Fr.alloc ?_ _ | refine Fr.drew ?_ | refine Fr.drewN ?_ _ | refine Fr.setCell ?_ (.inr (by simp; try omega)) _)) hf1) hf2)).mono ?_); rintro e w3 ⟨v3, rfl, ⟨vw2, vk2, vn2, vg2, vl2, rfl, hT⟩, hf3⟩; have hbt := hf3.held w.heap.size HBT2.out; obtain ⟨m0'', n0'', l0''⟩ := box_cells hbt; have hbr := hf3.held (w.heap.size + 1) HBR2.out; obtain ⟨m2'', n2'', l2''⟩ := box_cells hbr; have HBR3 := Lib.hid hbr; have HBT3 := Lib.hid hbt; obtain ⟨⟨aw, cw, rfl⟩, ⟨ak, ck, rfl⟩, ⟨an, cn, rfl⟩, ⟨ag, cg, rfl⟩, ⟨al, cl, rfl⟩⟩ := hT.shapes; have HT := Lib.hid hT; clear hbr hbt hT))
  (try simp only [Exit.inBlock, Exit.then])
  have hF := ((((((Fr.refl N0 w).alloc _).alloc _).alloc _).then0 hf1 |>.then0 hf2 |>.then0 hf3)).alloc (.cells #[.int .u8 5, .int .u64 st, .int .u64 cm, .slice aw ws.length cw, .slice ak ks.length ck, .slice an ns.length cn, .slice ag gs.length cg, .slice al ls.length cl, .bool fl] 32)
  have hz : (w3.alloc (.cells #[.int .u8 5, .int .u64 st, .int .u64 cm, .slice aw ws.length cw, .slice ak ks.length ck, .slice an ns.length cn, .slice ag gs.length cg, .slice al ls.length cl, .bool fl] 32)).heap[w.heap.size + 1]? = _ := blk0 HBR3.out
  have hb : (w3.alloc (.cells #[.int .u8 5, .int .u64 st, .int .u64 cm, .slice aw ws.length cw, .slice ak ks.length ck, .slice an ns.length cn, .slice ag gs.length cg, .slice al ls.length cl, .bool fl] 32)).heap[w.heap.size]? = _ := blk0 HBT3.out
  have ht : (w3.alloc (.cells #[.int .u8 5, .int .u64 st, .int .u64 cm, .slice aw ws.length cw, .slice ak ks.length ck, .slice an ns.length cn, .slice ag gs.length cg, .slice al ls.length cl, .bool fl] 32)).heap[w3.heap.size]? = _ := blkN rfl
  have hT : IsTxn (w3.alloc (.cells #[.int .u8 5, .int .u64 st, .int .u64 cm, .slice aw ws.length cw, .slice ak ks.length ck, .slice an ns.length cn, .slice ag gs.length cg, .slice al ls.length cl, .bool fl] 32)) (.agg #[.int .u8 5, .int .u64 st, .int .u64 cm, .slice aw ws.length cw, .slice ak ks.length ck, .slice an ns.length cn, .slice ag gs.length cg, .slice al ls.length cl, .bool fl]) ⟨5, st, cm, ws, ks, ns, gs, ls, fl⟩ :=
    IsTxn.fr0 (w := w3) ⟨_, _, _, _, _, rfl, HT.out⟩ ((Fr.refl _ _).alloc _)
  obtain ⟨W0, hW0⟩ : ∃ W, w3.alloc (.cells #[.int .u8 5, .int .u64 st, .int .u64 cm, .slice aw ws.length cw, .slice ak ks.length ck, .slice an ns.length cn, .slice ag gs.length cg, .slice al ls.length cl, .bool fl] 32) = W := ⟨_, rfl⟩
  rw [hW0] at hz hb ht hT hF ⊢
  obtain ⟨Bx, hBx⟩ : ∃ B, w3.heap.size = B := ⟨_, rfl⟩
  rw [hBx] at ht ⊢
  clear hW0 HC HO HI HBR HBT HBR2 HBT2 HBR3 HBT3 HT m0 n0 l0 m2 n2 l2 m0' n0' l0' m2' n2' l2' m0'' n0'' l0'' m2'' n2'' l2'' hf1 hf2 hf3
  clear hBx
  obtain ⟨m0, n0, l0⟩ := box_cells hz
  obtain ⟨m1, n1, l1⟩ := box_cells ht
  obtain ⟨m2, n2, l2⟩ := box_cells hb
  have HZ := Lib.hid hz; have HX := Lib.hid ht; have HT := Lib.hid hT; have HF0 := Lib.hid hF
  clear hz ht hT hb hF
  refine Code.wp_mono (Q := Exit.then (Back w (w.heap.size + 1) 6 7 8 #[.int .u8 5, .int .u64 st, .int .u64 cm, .slice aw ws.length cw, .slice ak ks.length ck, .slice an ns.length cn, .slice ag gs.length cg, .slice al ls.length cl, .bool fl] ⟨5, st, cm, ws, ks, ns, gs, ls, fl⟩ [{ group := g, skind := 3, sstart := st, scommit := cm }] 0) (fun _ _ _ => False)) ?_ ?_
  case refine_2 =>
    go_region_with (go_at_call 54; go_loud (refine (HFI.out _ (HF0.out.drew)).mono ?_); rintro e w4 ⟨rfl, hf4⟩; have hz1 := hf4.held (w.heap.size + 1) HZ.out; obtain ⟨p0, q0, k0⟩ := box_cells hz1; have ht1 := hf4.held Bx HX.out; obtain ⟨p1, q1, k1⟩ := box_cells ht1)
    all_goals exact ⟨_, rfl, rfl, rfl, rfl, (told_store (by omega) hz1 (dull_txn _ _ _ _ _ _ _ _ _ _ _ _ _ _ _ _ _ _ _) (HT.out.fr0 ((Fr.refl _ _).drew.then0 hf4)) (outs_nil _) (HF0.out.drew.then0 hf4)).sent _ (outs_one (r := ⟨g, 0, 0, 0, .slice none 0 0, .slice none 0 0, 3, st, cm, .slice none 0 0⟩) (blkN (by simp)) ⟨⟨rfl, rfl, rfl, rfl, rfl, rfl, rfl⟩, ⟨0, Strs.nil _ _⟩, ⟨0, RowsK.nil _ _ _ _⟩, ⟨0, RowsK.nil _ _ _ _⟩⟩)⟩
  intro e a' W hM
  cases e
  case' normal => skip
  all_goals (try exact (hM : False).elim)
  obtain ⟨vo, d1, d2, d3, d4, hM⟩ := hM
  clear HZ HX HT m0 n0 m1 n1 l0 l1 m2 n2 l2 HFI HF0
  go_wp2
  (try simp only [Exit.inBlock, Exit.then])
  exact bodyPost_ret_by (results_row3 rfl _ _ (w.heap.size + 1) 32 _ (0, 0) _ d2 hM.1 d3 d4 Tryz.underlying32 rfl sizeTxn) d1 hM.step

/-- A list without places is no list, however it lies. -/
theorem ints_empty {w : World} {b : Nat} {k : IntKind} {v : Value} {xs : List Int} (h : Ints k w b v xs) (he : xs = []) : Ints k w b v [] := he ▸ h

set_option maxRecDepth 100000 in
set_option maxHeartbeats 4000000 in
/-- .. done. -/
theorem xFinaled_yes (w : World) (v : Value) (t : Txn) (h : IsTxn w v t) (hv : Inv t) (g : Int) (hp : t.phase = 5) (hg : g ∈ t.left) :
    Calls Tryz.prog 30 #[v, .int .u32 g, .int .i64 0] w fun e w' => StepPost w (if t.left.erase g = [] then { phase := 6, start := t.start, commit := t.commit, writes := t.writes, keys := t.keys } else { t with left := t.left.erase g }) [] 0 e w' := by
  have hC := fun (W : World) (hf : Fr N0 w W) B hB => xcheck1 W v t (h.fr0 hf) hv B 5 (by decide) hB
  have hO := fun (W : World) (hf : Fr N0 w W) => xown2_any W v t (h.fr0 hf) hv
  have hlf := hv.fewLeft
  have hfl := hv.failed (by omega) (by omega)
  obtain ⟨vw, vk, vn, vg, vl, rfl, h⟩ := h
  obtain ⟨bl, hl⟩ := h.ls
  have hlw := hl.wf
  have hI := fun (W : World) (hf : Fr N0 w W) => idx3_any W bl vl t.left (hl.fr0 hf) g (by omega)
  obtain ⟨k, hk, hpl, her⟩ := erase_place hg
  rw [hpl] at hI
  rw [her]
  have hD := fun (w0 w2 : World) (vw vk vn vg vl : Value) (hT : TxnIn w2 vw vk vn vg vl t) (hL : LeftFree w0 w2 vw vk vn vg vl t) W o hW => left_del hT hL hlw k hk W o hW
  have hkw : wrap64 ((k : Int) + 1) = (k : Int) + 1 := by unfold wrap64; omega
  clear h hv hl hlf her hpl hlw hg
  obtain ⟨ph, st, cm, ws, ks, ns, gs, ls, fl⟩ := t
  simp only at hp hC hI hO hD hk hfl ⊢
  subst hfl
  obtain ⟨es, hes⟩ : ∃ es, ls.eraseIdx k = es := ⟨_, rfl⟩
  rw [hes]
  simp only [hes] at hD
  subst hp
  simp only [if_true] at hC
  have HC := Lib.hid hC; have HI := Lib.hid hI; have HO := Lib.hid hO; have HD := Lib.hid hD
  clear hC hI hO hD hes
  have hk0 : ¬ (k : Int) < 0 := by omega
  have hcs : (es = [] ∧ ((es.length : Int) == 0) = true) ∨ (es ≠ [] ∧ ((es.length : Int) == 0) = false) := by
    cases es
    · exact .inl ⟨rfl, rfl⟩
    · exact .inr ⟨by simp, by simp; omega⟩
  rcases hcs with ⟨he, hd2⟩ | ⟨he, hd2⟩
  · simp only [if_pos he]
    have HE := Lib.hid he
    clear he
    go_enter Tryz.func30, Tryz.ntmps30
    go_wp2_with (first
      | (go_at_call 62; go_loud (refine (HC.out _ (by repeat (first | exact Fr.refl _ _ | assumption | refine Fr.alloc ?_ _ | refine Fr.drew ?_ | refine Fr.drewN ?_ _ | refine Fr.setCell ?_ (.inr (by simp; try omega)) _)) _ (cell_new1 _ _ _ _ (by simp))).mono ?_); rintro e w1 ⟨rfl, hf1⟩; have hbt := hf1.held w.heap.size (blk0 (blk0 (blkN rfl))); obtain ⟨m0, n0, l0⟩ := box_cells hbt; have hbr := hf1.held (w.heap.size + 1) (blk0 (blkN (by simp))); obtain ⟨m2, n2, l2⟩ := box_cells hbr; have HBR := Lib.hid hbr; have HBT := Lib.hid hbt; clear hbr hbt)
      | (go_at_call 70; go_loud (refine (HI.out _ (Fr.then0 (by repeat (first | exact Fr.refl _ _ | assumption | refine Fr.alloc ?_ _ | refine Fr.drew ?_ | refine Fr.drewN ?_ _ | refine Fr.setCell ?_ (.inr (by simp; try omega)) _)) hf1)).mono ?_); rintro e w2 ⟨rfl, hf2⟩; have hbt := hf2.held w.heap.size HBT.out; obtain ⟨m0', n0', l0'⟩ := box_cells hbt; have hbr := hf2.held (w.heap.size + 1) HBR.out; obtain ⟨m2', n2', l2'⟩ := box_cells hbr; have HBR2 := Lib.hid hbr; have HBT2 := Lib.hid hbt; clear hbr hbt)
      | (go_at_call 65; go_loud (refine (HO.out _ (Fr.then0 (Fr.then0 (by repeat (first | exact Fr.refl _ _ | assumption | refine Fr.alloc ?_ _ | refine Fr.drew ?_ | refine Fr.drewN ?_ _ | refine Fr.setCell ?_ (.inr (by simp; try omega)) _)) hf1) hf2)).mono ?_); rintro e w3 ⟨vw2, vk2, vn2, vg2, vl2, rfl, hT, hLF, hf3⟩; have hbt := hf3.held w.heap.size HBT2.out; obtain ⟨m0'', n0'', l0''⟩ := box_cells hbt; have hbr := hf3.held (w.heap.size + 1) HBR2.out; obtain ⟨m2'', n2'', l2''⟩ := box_cells hbr; have HBR3 := Lib.hid hbr; have HBT3 := Lib.hid hbt; obtain ⟨⟨aw, cw, rfl⟩, ⟨ak, ck, rfl⟩, ⟨an, cn, rfl⟩, ⟨ag, cg, rfl⟩, ⟨al, cl, rfl⟩⟩ := hT.shapes; have HT := Lib.hid hT; have HLF := Lib.hid hLF; clear hbr hbt hT hLF)
      | (go_at_call 71; go_loud (refine (HD.out _ _ _ _ _ _ _ HT.out HLF.out _ _ rfl).mono ?_); rintro e w4 ⟨a4, c4, rfl, hT4, hkeep, hbx, hf4⟩; have hbt := hkeep _ _ (by omega) HBT3.out; obtain ⟨p0, q0, r0⟩ := box_cells hbt; have hbr := hkeep _ _ (by omega) HBR3.out; obtain ⟨p1, q1, r1⟩ := box_cells hbr; obtain ⟨p2, q2, r2⟩ := box_cells hbx; have HBR4 := Lib.hid hbr; have HBX := Lib.hid hbx; have HT4 := Lib.hid hT4; have HF4 := Lib.hid hf4; clear hbr hbt hbx hT4 hf4 hkeep))
    (try simp only [Exit.inBlock, Exit.then])
    have hF := ((((Fr.refl N0 w).alloc _).alloc _).alloc _).then0 hf1 |>.then0 hf2 |>.then0 hf3
    have hF4 := HF4.out w hF (by omega)
    have h0 : XB w w4 (w.heap.size + 1) w3.heap.size _ _ _ _ _ _ _ := ⟨HBR4.out, HBX.out, HT4.out, hF4⟩
    have hX := h0.set (dull_txn _ _ _ _ _ _ _ _ _ _ _ _ _ _ _ _ _ _ _) (by omega) (by omega) 7 (.slice a4 es.length c4)
    simp only [List.setIfInBounds_toArray, List.set_cons_zero, List.set_cons_succ] at hX
    replace hX := hX.set (dull_txn _ _ _ _ _ _ _ _ _ _ _ _ _ _ _ _ _ _ _) (by omega) (by omega) 0 (.int .u8 6)
    simp only [List.setIfInBounds_toArray, List.set_cons_zero, List.set_cons_succ] at hX
    replace hX := hX.set (dull_txn _ _ _ _ _ _ _ _ _ _ _ _ _ _ _ _ _ _ _) (by omega) (by omega) 5 (.slice none 0 0)
    simp only [List.setIfInBounds_toArray, List.set_cons_zero, List.set_cons_succ] at hX
    replace hX := hX.set (dull_txn _ _ _ _ _ _ _ _ _ _ _ _ _ _ _ _ _ _ _) (by omega) (by omega) 6 (.slice none 0 0)
    simp only [List.setIfInBounds_toArray, List.set_cons_zero, List.set_cons_succ] at hX
    obtain ⟨hz, ht, hTx, hf0⟩ := hX
    refine bodyPost_ret_by (results_row3 rfl _ _ (w.heap.size + 1) 32 _ (0, 0) _ rfl (txn_box_set hz) rfl rfl Tryz.underlying32 rfl sizeTxn) rfl ?_
    exact (told_store (t := { phase := 6, start := st, commit := cm, writes := ws, keys := ks }) (by omega) hz (dull_txn _ _ _ _ _ _ _ _ _ _ _ _ _ _ _ _ _ _ _) ⟨_, _, _, _, _, rfl, ⟨hTx.ws, hTx.ks, ⟨0, RowsK.nil _ _ _ _⟩, ⟨0, Ints.nil _ _ _⟩, hTx.ls.imp fun _ h => ints_empty h HE.out, fun _ => rfl⟩⟩ (outs_nil _) hf0).step
  · simp only [if_neg he]
    clear he
    go_enter Tryz.func30, Tryz.ntmps30
    go_wp2_with (first
      | (go_at_call 62; go_loud (refine (HC.out _ (by repeat (first | exact Fr.refl _ _ | assumption | refine Fr.alloc ?_ _ | refine Fr.drew ?_ | refine Fr.drewN ?_ _ | refine Fr.setCell ?_ (.inr (by simp; try omega)) _)) _ (cell_new1 _ _ _ _ (by simp))).mono ?_); rintro e w1 ⟨rfl, hf1⟩; have hbt := hf1.held w.heap.size (blk0 (blk0 (blkN rfl))); obtain ⟨m0, n0, l0⟩ := box_cells hbt; have hbr := hf1.held (w.heap.size + 1) (blk0 (blkN (by simp))); obtain ⟨m2, n2, l2⟩ := box_cells hbr; have HBR := Lib.hid hbr; have HBT := Lib.hid hbt; clear hbr hbt)
      | (go_at_call 70; go_loud (refine (HI.out _ (Fr.then0 (by repeat (first | exact Fr.refl _ _ | assumption | refine Fr.alloc ?_ _ | refine Fr.drew ?_ | refine Fr.drewN ?_ _ | refine Fr.setCell ?_ (.inr (by simp; try omega)) _)) hf1)).mono ?_); rintro e w2 ⟨rfl, hf2⟩; have hbt := hf2.held w.heap.size HBT.out; obtain ⟨m0', n0', l0'⟩ := box_cells hbt; have hbr := hf2.held (w.heap.size + 1) HBR.out; obtain ⟨m2', n2', l2'⟩ := box_cells hbr; have HBR2 := Lib.hid hbr; have HBT2 := Lib.hid hbt; clear hbr hbt)
      | (go_at_call 65; go_loud (refine (HO.out _ (Fr.then0 (Fr.then0 (by repeat (first | exact Fr.refl _ _ | assumption | refine Fr.alloc ?_ _ | refine Fr.drew ?_ | refine Fr.drewN ?_ _ | refine Fr.setCell ?_ (.inr (by simp; try omega)) _)) hf1) hf2)).mono ?_); rintro e w3 ⟨vw2, vk2, vn2, vg2, vl2, rfl, hT, hLF, hf3⟩; have hbt := hf3.held w.heap.size HBT2.out; obtain ⟨m0'', n0'', l0''⟩ := box_cells hbt; have hbr := hf3.held (w.heap.size + 1) HBR2.out; obtain ⟨m2'', n2'', l2''⟩ := box_cells hbr; have HBR3 := Lib.hid hbr; have HBT3 := Lib.hid hbt; obtain ⟨⟨aw, cw, rfl⟩, ⟨ak, ck, rfl⟩, ⟨an, cn, rfl⟩, ⟨ag, cg, rfl⟩, ⟨al, cl, rfl⟩⟩ := hT.shapes; have HT := Lib.hid hT; have HLF := Lib.hid hLF; clear hbr hbt hT hLF)
      | (go_at_call 71; go_loud (refine (HD.out _ _ _ _ _ _ _ HT.out HLF.out _ _ rfl).mono ?_); rintro e w4 ⟨a4, c4, rfl, hT4, hkeep, hbx, hf4⟩; have hbt := hkeep _ _ (by omega) HBT3.out; obtain ⟨p0, q0, r0⟩ := box_cells hbt; have hbr := hkeep _ _ (by omega) HBR3.out; obtain ⟨p1, q1, r1⟩ := box_cells hbr; obtain ⟨p2, q2, r2⟩ := box_cells hbx; have HBR4 := Lib.hid hbr; have HBX := Lib.hid hbx; have HT4 := Lib.hid hT4; have HF4 := Lib.hid hf4; clear hbr hbt hbx hT4 hf4 hkeep))
    (try simp only [Exit.inBlock, Exit.then])
    have hF := ((((Fr.refl N0 w).alloc _).alloc _).alloc _).then0 hf1 |>.then0 hf2 |>.then0 hf3
    have hF4 := HF4.out w hF (by omega)
    have h0 : XB w w4 (w.heap.size + 1) w3.heap.size _ _ _ _ _ _ _ := ⟨HBR4.out, HBX.out, HT4.out, hF4⟩
    have hX := h0.set (dull_txn _ _ _ _ _ _ _ _ _ _ _ _ _ _ _ _ _ _ _) (by omega) (by omega) 7 (.slice a4 es.length c4)
    simp only [List.setIfInBounds_toArray, List.set_cons_zero, List.set_cons_succ] at hX
    obtain ⟨hz, ht, hTx, hf0⟩ := hX
    refine bodyPost_ret_by (results_row3 rfl _ _ (w.heap.size + 1) 32 _ (0, 0) _ rfl (txn_box_set hz) rfl rfl Tryz.underlying32 rfl sizeTxn) rfl ?_
    exact (told_store (t := ⟨5, st, cm, ws, ks, ns, gs, es, false⟩) (by omega) hz (dull_txn _ _ _ _ _ _ _ _ _ _ _ _ _ _ _ _ _ _ _) ⟨_, _, _, _, _, rfl, ⟨hTx.ws, hTx.ks, hTx.ns, hTx.gs, hTx.ls, hTx.n0⟩⟩ (outs_nil _) hf0).step

theorem xFinaled_any (w : World) (v : Value) (t : Txn) (h : IsTxn w v t) (hv : Inv t) (g code : Int) :
    Calls Tryz.prog 30 #[v, .int .u32 g, .int .i64 code] w fun e w' => StepPost w (sFinaled t g code).1 (if (sFinaled t g code).2 = 0 ∧ code ≠ 0 then [{ group := g, skind := 3, sstart := t.start, scommit := t.commit }] else []) (sFinaled t g code).2 e w' := by
  unfold sFinaled
  by_cases hp : t.phase = 5
  · by_cases hg : g ∈ t.left
    · by_cases hc : code = 0
      · subst hc
        have := xFinaled_yes w v t h hv g hp hg
        simp only [hp, hg, not_true, ne_eq, if_false, and_false]
        by_cases he : t.left.erase g = []
        · simp only [he, if_true] at this ⊢; exact this
        · simp only [he, if_false, hp] at this ⊢; exact this
      · simp only [hp, hg, hc, not_true, not_false_eq_true, ne_eq, if_false, if_true, and_true]
        exact xFinaled_one w v t h hv g code hp hg hc
    · simp only [hp, hg, not_true, not_false_eq_true, ne_eq, if_false, if_true, show ¬ (5 : Int) = 0 by decide, false_and]
      exact xFinaled_no2 w v t h hv g code hp hg
  · simp only [hp, not_false_eq_true, ne_eq, if_true, show ¬ (3 : Int) = 0 by decide, false_and, if_false]
    exact xFinaled_no1 w v t h hv g code hp

end Go.Proofs.YthidminepegnoaaGreatDoor
namespace Go.Proofs.YthidminepegnoaaGreatDoor
open Go.RowKit Go.Shelf Go.Maps Go.Sort
attribute [local go_sem] Oper.semAt_some
attribute [local irreducible] wpQuiet
set_option linter.unusedVariables false
set_option linter.unusedSimpArgs false

set_option maxRecDepth 100000 in
set_option maxHeartbeats 2000000 in
theorem xStarted_any (w : World) (v : Value) (t : Txn) (h : IsTxn w v t) (hv : Inv t) (a : An) :
    Calls Tryz.prog 23 #[v, .agg a.enc.toArray] w fun e w' => StepPost w (sStarted t a).1 [] (sStarted t a).2 e w' := by
  have hC := fun (W : World) (hf : Fr N0 w W) B hB => xcheck1 W v t (h.fr0 hf) hv B 1 (by decide) hB
  obtain ⟨vw, vk, vn, vg, vl, rfl, h⟩ := h
  clear h hv
  obtain ⟨s, hs⟩ : ∃ s, sStarted t a = s := ⟨_, rfl⟩
  have hsd : s = if t.phase ≠ 1 then ({}, 3) else if a.code ≠ 0 ∨ a.first = 0 then ({}, 2) else ({ phase := 2, start := a.first }, 0) := by rw [← hs]; rfl
  rw [hs]
  clear hs
  obtain ⟨ac, af, am, tp, tg, tt, ta, tu⟩ := a
  obtain ⟨ph, st, cm, ws, ks, ns, gs, ls, fl⟩ := t
  unfold An.enc
  simp only at hsd hC ⊢
  by_cases hp : ph = 1
  · rw [if_neg (by simp [hp])] at hsd
    simp only [if_pos hp] at hC
    have HC := Lib.hid hC
    clear hC hp
    by_cases hbad : ac ≠ 0 ∨ af = 0
    · rw [if_pos hbad] at hsd
      have HS := Lib.hid hsd
      have hcs : (ac != 0) = true ∨ (ac != 0) = false ∧ (af == 0) = true := by
        by_cases h1 : ac = 0
        · exact .inr ⟨by simpa using h1, by simpa using hbad.resolve_left (fun h => h h1)⟩
        · exact .inl (by simpa using h1)
      clear hsd hbad
      rcases hcs with hd | ⟨hd, hd2⟩
      all_goals
        go_enter Tryz.func23, Tryz.ntmps23
        go_wp2_with (go_at_call 62; go_loud (refine (HC.out _ (by repeat (first | exact Fr.refl _ _ | assumption | refine Fr.alloc ?_ _ | refine Fr.drew ?_ | refine Fr.drewN ?_ _ | refine Fr.setCell ?_ (.inr (by simp; try omega)) _)) _ (cell_new1 _ _ _ _ (by simp))).mono ?_); rintro e w1 ⟨rfl, hf1⟩; have hba := hf1.held (w.heap.size + 1) (blk0 (blk0 (blkN (by simp)))); have hbr := hf1.held (w.heap.size + 2) (blk0 (blkN (by simp))); obtain ⟨m1, n1, l1⟩ := box_cells hba; obtain ⟨m2, n2, l2⟩ := box_cells hbr; have HBR := Lib.hid hbr; clear hba hbr)
        (try simp only [Exit.inBlock, Exit.then])
        obtain rfl := HS.out
        have hF := (((((Fr.refl N0 w).alloc _).alloc _).alloc _).alloc _).then0 hf1
        refine bodyPost_ret_by (results_row3 rfl _ _ (w.heap.size + 2) 32 _ (0, 0) _ rfl (txn_box_set HBR.out) rfl rfl Tryz.underlying32 rfl sizeTxn) rfl ?_
        exact (told_nums (by omega) HBR.out hF).step
    · rw [if_neg hbad] at hsd
      have HS := Lib.hid hsd
      have hd : (ac != 0) = false := by simpa using fun h => hbad (.inl h)
      have hd2 : (af == 0) = false := by simpa using fun h => hbad (.inr h)
      clear hsd hbad
      all_goals
        go_enter Tryz.func23, Tryz.ntmps23
        go_wp2_with (go_at_call 62; go_loud (refine (HC.out _ (by repeat (first | exact Fr.refl _ _ | assumption | refine Fr.alloc ?_ _ | refine Fr.drew ?_ | refine Fr.drewN ?_ _ | refine Fr.setCell ?_ (.inr (by simp; try omega)) _)) _ (cell_new1 _ _ _ _ (by simp))).mono ?_); rintro e w1 ⟨rfl, hf1⟩; have hba := hf1.held (w.heap.size + 1) (blk0 (blk0 (blkN (by simp)))); have hbr := hf1.held (w.heap.size + 2) (blk0 (blkN (by simp))); obtain ⟨m1, n1, l1⟩ := box_cells hba; obtain ⟨m2, n2, l2⟩ := box_cells hbr; have HBR := Lib.hid hbr; clear hba hbr)
        (try simp only [Exit.inBlock, Exit.then])
        obtain rfl := HS.out
        have hF := (((((Fr.refl N0 w).alloc _).alloc _).alloc _).alloc _).then0 hf1
        refine bodyPost_ret_by (results_row3 rfl _ _ (w.heap.size + 2) 32 _ (0, 0) _ rfl (txn_box_set HBR.out) rfl rfl Tryz.underlying32 rfl sizeTxn) rfl ?_
        exact (told_nums (by omega) HBR.out hF).step
  · rw [if_pos hp] at hsd
    simp only [if_neg hp] at hC
    have HC := Lib.hid hC; have HS := Lib.hid hsd
    clear hC hp hsd
    all_goals
        go_enter Tryz.func23, Tryz.ntmps23
        go_wp2_with (go_at_call 62; go_loud (refine (HC.out _ (by repeat (first | exact Fr.refl _ _ | assumption | refine Fr.alloc ?_ _ | refine Fr.drew ?_ | refine Fr.drewN ?_ _ | refine Fr.setCell ?_ (.inr (by simp; try omega)) _)) _ (cell_new1 _ _ _ _ (by simp))).mono ?_); rintro e w1 ⟨rfl, hf1⟩; have hba := hf1.held (w.heap.size + 1) (blk0 (blk0 (blkN (by simp)))); have hbr := hf1.held (w.heap.size + 2) (blk0 (blkN (by simp))); obtain ⟨m1, n1, l1⟩ := box_cells hba; obtain ⟨m2, n2, l2⟩ := box_cells hbr; have HBR := Lib.hid hbr; clear hba hbr)
        (try simp only [Exit.inBlock, Exit.then])
        obtain rfl := HS.out
        have hF := (((((Fr.refl N0 w).alloc _).alloc _).alloc _).alloc _).then0 hf1
        refine bodyPost_ret_by (results_row3 rfl _ _ (w.heap.size + 2) 32 _ (0, 0) _ rfl (txn_box_set HBR.out) rfl rfl Tryz.underlying32 rfl sizeTxn) rfl ?_
        exact (told_nums (by omega) HBR.out hF).step

end Go.Proofs.YthidminepegnoaaGreatDoor
namespace Go.Proofs.YthidminepegnoaaGreatDoor
open Go.RowKit Go.Shelf Go.Maps Go.Sort
attribute [local go_sem] Oper.semAt_some
attribute [local irreducible] wpQuiet
set_option linter.unusedVariables false
set_option linter.unusedSimpArgs false

set_option maxRecDepth 100000 in
set_option maxHeartbeats 2000000 in
/-- .. refused. -/
theorem xDecided_no (w : World) (v : Value) (t : Txn) (h : IsTxn w v t) (hv : Inv t) (a : An) (hn : (sDecided t a).2 ≠ 0) :
    Calls Tryz.prog 29 #[v, .agg a.enc.toArray] w fun e w' => StepPost w {} [] (sDecided t a).2 e w' := by
  have hC := fun (W : World) (hf : Fr N0 w W) B hB => xcheck1 W v t (h.fr0 hf) hv B 4 (by decide) hB
  obtain ⟨vw, vk, vn, vg, vl, rfl, h⟩ := h
  clear h hv
  obtain ⟨ac, af, am, tp, tg, tt, ta, tu⟩ := a
  obtain ⟨ph, st, cm, ws, ks, ns, gs, ls, fl⟩ := t
  unfold An.enc
  unfold sDecided at hn ⊢
  simp only at hn hC ⊢
  by_cases hp : ph = 4
  · rw [if_neg (by simp [hp])] at hn ⊢
    simp only [if_pos hp] at hC
    have hbad : ac ≠ 0 ∨ am ≠ 0 ∧ am ≤ st := by
      by_cases hb : ac ≠ 0 ∨ am ≠ 0 ∧ am ≤ st
      · exact hb
      · rw [if_neg hb] at hn; exact absurd rfl hn
    rw [if_pos hbad]
    have HC := Lib.hid hC
    clear hC hp hn
    have hcs : (ac != 0) = true ∨ (ac != 0) = false ∧ (am != 0) = true ∧ decide (am ≤ st) = true := by
      by_cases h1 : ac = 0
      · have := hbad.resolve_left (fun h => h h1)
        exact .inr ⟨by simpa using h1, by simpa using this.1, by simpa using this.2⟩
      · exact .inl (by simpa using h1)
    clear hbad
    rcases hcs with hd | ⟨hd, hd2, hd3⟩
    all_goals
      go_enter Tryz.func29, Tryz.ntmps29
      go_wp2_with (go_at_call 62; go_loud (refine (HC.out _ (by repeat (first | exact Fr.refl _ _ | assumption | refine Fr.alloc ?_ _ | refine Fr.drew ?_ | refine Fr.drewN ?_ _ | refine Fr.setCell ?_ (.inr (by simp; try omega)) _)) _ (cell_new1 _ _ _ _ (by simp))).mono ?_); rintro e w1 ⟨rfl, hf1⟩; have hbt := hf1.held w.heap.size (blk0 (blk0 (blk0 (blkN rfl)))); obtain ⟨m0, n0, l0⟩ := box_cells hbt; have hba := hf1.held (w.heap.size + 1) (blk0 (blk0 (blkN (by simp)))); have hbr := hf1.held (w.heap.size + 2) (blk0 (blkN (by simp))); obtain ⟨m1, n1, l1⟩ := box_cells hba; obtain ⟨m2, n2, l2⟩ := box_cells hbr; have HBR := Lib.hid hbr; clear hba hbr hbt)
      (try simp only [Exit.inBlock, Exit.then])
      have hF := (((((Fr.refl N0 w).alloc _).alloc _).alloc _).alloc _).then0 hf1
      refine bodyPost_ret_by (results_row3 rfl _ _ (w.heap.size + 2) 32 _ (0, 0) _ rfl (txn_box_set HBR.out) rfl rfl Tryz.underlying32 rfl sizeTxn) rfl ?_
      exact (told_nums (by omega) HBR.out hF).step
  · rw [if_pos hp]
    simp only [if_neg hp] at hC
    have HC := Lib.hid hC
    clear hC hp hn
    go_enter Tryz.func29, Tryz.ntmps29
    go_wp2_with (go_at_call 62; go_loud (refine (HC.out _ (by repeat (first | exact Fr.refl _ _ | assumption | refine Fr.alloc ?_ _ | refine Fr.drew ?_ | refine Fr.drewN ?_ _ | refine Fr.setCell ?_ (.inr (by simp; try omega)) _)) _ (cell_new1 _ _ _ _ (by simp))).mono ?_); rintro e w1 ⟨rfl, hf1⟩; have hbr := hf1.held (w.heap.size + 2) (blk0 (blkN (by simp))); obtain ⟨m2, n2, l2⟩ := box_cells hbr; have HBR := Lib.hid hbr; clear hbr)
    (try simp only [Exit.inBlock, Exit.then])
    have hF := (((((Fr.refl N0 w).alloc _).alloc _).alloc _).alloc _).then0 hf1
    refine bodyPost_ret_by (results_row3 rfl _ _ (w.heap.size + 2) 32 _ (0, 0) _ rfl (txn_box_set HBR.out) rfl rfl Tryz.underlying32 rfl sizeTxn) rfl ?_
    exact (told_nums (by omega) HBR.out hF).step
/-- x's box behind its four stores. -/
def DecMid (w : World) (R Bx : Nat) (st am : Int) (ws : List Wr) (ks : List ByteArray) (ns : List Rt) (gs : List Int) (W : World) : Prop :=
  ∃ aw cw ak ck an cn ag cg al cl, W.heap[R]? = some (.cells #[.int .u8 0, .int .u64 0, .int .u64 0, .slice none 0 0, .slice none 0 0, .slice none 0 0, .slice none 0 0, .slice none 0 0, .bool false] 32 (0, 0)) ∧
    W.heap[Bx]? = some (.cells #[.int .u8 5, .int .u64 st, .int .u64 am, .slice aw ws.length cw, .slice ak ks.length ck, .slice an ns.length cn, .slice ag gs.length cg, .slice al gs.length cl, .bool false] 32 (0, 0)) ∧
    TxnIn W (.slice aw ws.length cw) (.slice ak ks.length ck) (.slice an ns.length cn) (.slice ag gs.length cg) (.slice al gs.length cl) ⟨5, st, am, ws, ks, ns, gs, gs, false⟩ ∧ Fr N0 w W
theorem dec_mid_mk {w w3 : World} {R Bx b0 : Nat} {ph st cm am : Int} {ws : List Wr} {ks : List ByteArray} {ns : List Rt} {gs ls : List Int} {aw ak an ag al ag1 : Option Addr} {cw ck cn cg cl cg1 : Nat} {fl : Bool}
    (hz : w3.heap[R]? = some (.cells #[.int .u8 0, .int .u64 0, .int .u64 0, .slice none 0 0, .slice none 0 0, .slice none 0 0, .slice none 0 0, .slice none 0 0, .bool false] 32 (0, 0)))
    (hx : w3.heap[Bx]? = some (.cells #[.int .u8 ph, .int .u64 st, .int .u64 cm, .slice aw ws.length cw, .slice ak ks.length ck, .slice an ns.length cn, .slice ag gs.length cg, .slice al ls.length cl, .bool fl] 32 (0, 0)))
    (hT : TxnIn w3 (.slice aw ws.length cw) (.slice ak ks.length ck) (.slice an ns.length cn) (.slice ag gs.length cg) (.slice al ls.length cl) ⟨ph, st, cm, ws, ks, ns, gs, ls, fl⟩)
    (hg : w3.ownsRow b0 41 1 (.slice ag1 gs.length cg1) gs.length (gs.map (Value.int .u32))) (hgw : ∀ x ∈ gs, (Lit.int .u32 x).wf = true) (hF : Fr N0 w w3) (hB : w.heap.size ≤ Bx) (hR : R ≠ Bx) :
    DecMid w R Bx st am ws ks ns gs ((((w3.setCell ⟨Bx, 0, none⟩ (.int .u8 5)).setCell ⟨Bx, 2, none⟩ (.int .u64 am)).setCell ⟨Bx, 8, none⟩ (.bool false)).setCell ⟨Bx, 7, none⟩ (.slice ag1 gs.length cg1)) := by
  have hf : Fr (fun k => k = Bx) w3 ((((w3.setCell ⟨Bx, 0, none⟩ (.int .u8 5)).setCell ⟨Bx, 2, none⟩ (.int .u64 am)).setCell ⟨Bx, 8, none⟩ (.bool false)).setCell ⟨Bx, 7, none⟩ (.slice ag1 gs.length cg1)) :=
    ((((Fr.refl (fun k => k = Bx) w3).setCell (p := ⟨Bx, 0, none⟩) (.inl rfl) _).setCell (p := ⟨Bx, 2, none⟩) (.inl rfl) _).setCell (p := ⟨Bx, 8, none⟩) (.inl rfl) _).setCell (p := ⟨Bx, 7, none⟩) (.inl rfl) _
  have hb := box_set (i := 7) (v := .slice ag1 gs.length cg1) (box_set (i := 8) (v := .bool false) (box_set (i := 2) (v := .int .u64 am) (box_set (i := 0) (v := .int .u8 5) hx)))
  simp only [List.setIfInBounds_toArray, List.set_cons_zero, List.set_cons_succ] at hb
  obtain ⟨bg, -, hG⟩ := ints_of_own hg hgw
  have hd := dull_txn ph st cm aw ak an ag al ws.length ks.length ns.length gs.length ls.length cw ck cn cg cl fl
  have hp := hT.past hx hd hf
  exact ⟨aw, cw, ak, ck, an, cn, ag, cg, ag1, cg1, (hf.at hR (lt_of_block hz)).trans hz, hb, ⟨hp.ws, hp.ks, hp.ns, hp.gs, ⟨bg, ints_past hG hx hd hf⟩, hp.n0⟩, hF.trans hf fun k hk => .inr (by rw [show k = Bx from hk]; exact hB)⟩

set_option maxRecDepth 100000 in
set_option maxHeartbeats 6000000 in
theorem xDecided_yes (w : World) (v : Value) (t : Txn) (h : IsTxn w v t) (hv : Inv t) (a : An) (hr : 0 ≤ a.commit ∧ a.commit < 18446744073709551616) (hp : t.phase = 4) (hok : ¬ (a.code ≠ 0 ∨ a.commit ≠ 0 ∧ a.commit ≤ t.start)) :
    Calls Tryz.prog 29 #[v, .agg a.enc.toArray] w fun e w' => StepPost w { t with phase := 5, commit := a.commit, failed := false, left := t.groups } (again { t with phase := 5, commit := a.commit, failed := false, left := t.groups }) 0 e w' := by
  have hC := fun (W : World) (hf : Fr N0 w W) B hB => xcheck1 W v t (h.fr0 hf) hv B 4 (by decide) hB
  have hO := fun (W : World) (hf : Fr N0 w W) => xown_any W v t (h.fr0 hf) hv
  have hi := inv_decided (a := a) hv hr
  rw [sDecided, if_neg (by omega), if_neg hok] at hi
  have hA := fun W v (hq : IsTxn W v { t with phase := 5, commit := a.commit, failed := false, left := t.groups }) => xAgain_any W v _ hq (hi rfl)
  have hgl := hv.groups_few
  obtain ⟨vw, vk, vn, vg, vl, rfl, h⟩ := h
  obtain ⟨⟨aw0, cw0, rfl⟩, ⟨ak0, ck0, rfl⟩, ⟨an0, cn0, rfl⟩, ⟨ag0, cg0, rfl⟩, ⟨al0, cl0, rfl⟩⟩ := h.shapes
  obtain ⟨bg, hg⟩ := h.gs
  have hG := fun W (hf : Fr N0 w W) => clone3_any W bg _ t.groups (hg.fr0 hf) (by omega)
  have hgw := hg.wf
  simp only [if_pos hp] at hC
  clear h hv hi hr hg hgl
  obtain ⟨ph, st, cm, ws, ks, ns, gs, ls, fl⟩ := t
  obtain ⟨ac, af, am, tp, tg, tt, ta, tu⟩ := a
  obtain rfl := hp
  simp only at hC hO hA hG hok hgw ⊢
  unfold An.enc
  have HC := Lib.hid hC; have HO := Lib.hid hO; have HA := Lib.hid hA; have HG := Lib.hid hG; have HGW := Lib.hid hgw
  have hcs : (ac != 0) = false ∧ ((am != 0) = false ∨ (am != 0) = true ∧ decide (am ≤ st) = false) := by
    refine ⟨by simpa using fun h => hok (.inl h), ?_⟩
    by_cases h1 : am = 0
    · exact .inl (by simpa using h1)
    · exact .inr ⟨by simpa using h1, by simpa using fun h => hok (.inr ⟨h1, h⟩)⟩
  clear hC hO hA hG hok hgw
  obtain ⟨hd, hcs⟩ := hcs
  rcases hcs with hd2 | ⟨hd2, hd3⟩
  all_goals
    go_enter Tryz.func29, Tryz.ntmps29
    go_wp2_with (first
      | (go_at_call 62; go_loud (refine (HC.out _ (by repeat (first | exact Fr.refl _ _ | assumption | refine Fr.alloc ?_ _ | refine Fr.drew ?_ | refine Fr.drewN ?_ _ | refine Fr.setCell ?_ (.inr (by simp; try omega)) _)) _ (cell_new1 _ _ _ _ (by simp))).mono ?_); rintro e w1 ⟨rfl, hf1⟩; have hbt := hf1.held w.heap.size (blk0 (blk0 (blk0 (blkN rfl)))); obtain ⟨m0, n0, l0⟩ := box_cells hbt; have hba := hf1.held (w.heap.size + 1) (blk0 (blk0 (blkN (by simp)))); have hbr := hf1.held (w.heap.size + 2) (blk0 (blkN (by simp))); obtain ⟨m1, n1, l1⟩ := box_cells hba; obtain ⟨m2, n2, l2⟩ := box_cells hbr; have HBR := Lib.hid hbr; have HBA := Lib.hid hba; have HBT := Lib.hid hbt; clear hba hbr hbt)
      | (go_at_call 65; go_loud (refine (HO.out _ (Fr.then0 (by repeat (first | exact Fr.refl _ _ | assumption | refine Fr.alloc ?_ _ | refine Fr.drew ?_ | refine Fr.drewN ?_ _ | refine Fr.setCell ?_ (.inr (by simp; try omega)) _)) hf1)).mono ?_); rintro e w2 ⟨v2, rfl, ⟨vw2, vk2, vn2, vg2, vl2, rfl, hT⟩, hf2⟩; obtain ⟨m0', n0', l0'⟩ := box_cells (hf2.held w.heap.size HBT.out); obtain ⟨m1', n1', l1'⟩ := box_cells (hf2.held (w.heap.size + 1) HBA.out); have hbr := hf2.held (w.heap.size + 2) HBR.out; obtain ⟨m2', n2', l2'⟩ := box_cells hbr; have HBR2 := Lib.hid hbr; obtain ⟨⟨aw, cw, rfl⟩, ⟨ak, ck, rfl⟩, ⟨an, cn, rfl⟩, ⟨ag, cg, rfl⟩, ⟨al, cl, rfl⟩⟩ := hT.shapes; have HT := Lib.hid hT; clear hbr hT))
    have hf0 := ((((((Fr.refl N0 w).alloc _).alloc _).alloc _).alloc _).then0 hf1 |>.then0 hf2).alloc (.cells #[.int .u8 4, .int .u64 st, .int .u64 cm, .slice aw ws.length cw, .slice ak ks.length ck, .slice an ns.length cn, .slice ag gs.length cg, .slice al ls.length cl, .bool fl] 32)
    have hbt : (w2.alloc (.cells #[.int .u8 4, .int .u64 st, .int .u64 cm, .slice aw ws.length cw, .slice ak ks.length ck, .slice an ns.length cn, .slice ag gs.length cg, .slice al ls.length cl, .bool fl] 32)).heap[w.heap.size]? = _ := blk0 (hf2.held w.heap.size HBT.out)
    have hba : (w2.alloc (.cells #[.int .u8 4, .int .u64 st, .int .u64 cm, .slice aw ws.length cw, .slice ak ks.length ck, .slice an ns.length cn, .slice ag gs.length cg, .slice al ls.length cl, .bool fl] 32)).heap[w.heap.size + 1]? = _ := blk0 (hf2.held (w.heap.size + 1) HBA.out)
    have hbr : (w2.alloc (.cells #[.int .u8 4, .int .u64 st, .int .u64 cm, .slice aw ws.length cw, .slice ak ks.length ck, .slice an ns.length cn, .slice ag gs.length cg, .slice al ls.length cl, .bool fl] 32)).heap[w.heap.size + 2]? = _ := blk0 HBR2.out
    have hbx : (w2.alloc (.cells #[.int .u8 4, .int .u64 st, .int .u64 cm, .slice aw ws.length cw, .slice ak ks.length ck, .slice an ns.length cn, .slice ag gs.length cg, .slice al ls.length cl, .bool fl] 32)).heap[w2.heap.size]? = _ := blkN rfl
    have hT := HT.out.fr0 ((Fr.refl N0 w2).alloc (.cells #[.int .u8 4, .int .u64 st, .int .u64 cm, .slice aw ws.length cw, .slice ak ks.length ck, .slice an ns.length cn, .slice ag gs.length cg, .slice al ls.length cl, .bool fl] 32))
    have hsz := lt_of_block HBR2.out
    obtain ⟨W0, hW0⟩ : ∃ W, w2.alloc (.cells #[.int .u8 4, .int .u64 st, .int .u64 cm, .slice aw ws.length cw, .slice ak ks.length ck, .slice an ns.length cn, .slice ag gs.length cg, .slice al ls.length cl, .bool fl] 32) = W := ⟨_, rfl⟩
    rw [hW0] at hbt hba hbr hbx hT hf0 ⊢
    obtain ⟨Bx, hBx⟩ : ∃ B, w2.heap.size = B := ⟨_, rfl⟩
    rw [hBx] at hbx hsz ⊢
    clear hW0 HC HO HBT HBR HBA HBR2 HT m0 n0 l0 m1 n1 l1 m2 n2 l2 m0' n0' l0' m1' n1' l1' m2' n2' l2' hf1 hf2 w1
    clear hBx w2
    obtain ⟨m0, n0, l0⟩ := box_cells hbt
    obtain ⟨m1, n1, l1⟩ := box_cells hba
    obtain ⟨m2, n2, l2⟩ := box_cells hbr
    obtain ⟨m3, n3, l3⟩ := box_cells hbx
    have HR := Lib.hid hbr; have HX := Lib.hid hbx; have HT := Lib.hid hT; have HB0 := Lib.hid hba
    clear hbt hba hbr hbx hT
    refine Code.wp_mono (Q := Exit.then (fun a' W => ∃ u0 u1 u2 u3 u7 u9 u10 u11 u12 u13 u14 u15 u16 u17 u18 u19 u20 u21 u22 u23 u24 u25 u26 u27 u28 u29 u30 u31 u32 u33 u34 u35 u36 u37 u38 u39 u40 u41 u42 u43 u44 u45, a' = { tmps := #[u0, u1, u2, u3, .pointer (some ⟨w.heap.size + 2, 0, none⟩), .slice none 0 0, .int .i64 0, u7, .pointer (some ⟨Bx, 0, none⟩), u9, u10, u11, u12, u13, u14, u15, u16, u17, u18, u19, u20, u21, u22, u23, u24, u25, u26, u27, u28, u29, u30, u31, u32, u33, u34, u35, u36, u37, u38, u39, u40, u41, u42, u43, u44, u45], defers := [] } ∧ DecMid w (w.heap.size + 2) Bx st am ws ks ns gs W) (fun _ _ _ => False)) ?_ ?_
    case refine_2 =>
      go_region_with (go_at_call 72; go_loud (refine (HG.out _ hf0.drew).mono ?_); rintro e w3 ⟨vg1, rfl, hr3, hf3⟩; obtain ⟨ag1, cg1, rfl⟩ := own_form hr3; obtain ⟨p2, q2, k2⟩ := box_cells (hf3.held (w.heap.size + 1) HB0.out); have hz1 := hf3.held (w.heap.size + 2) HR.out; obtain ⟨p0, q0, k0⟩ := box_cells hz1; have hx1 := hf3.held Bx HX.out; obtain ⟨p1, q1, k1⟩ := box_cells hx1; have HX1 := Lib.hid hx1; have HZ1 := Lib.hid hz1; clear hz1 hx1)
      all_goals exact ⟨_, _, _, _, _, _, _, _, _, _, _, _, _, _, _, _, _, _, _, _, _, _, _, _, _, _, _, _, _, _, _, _, _, _, _, _, _, _, _, _, _, _, rfl, dec_mid_mk HZ1.out HX1.out (HT.out.fr0 ((Fr.refl _ _).drew.then0 hf3)) hr3 HGW.out (hf0.drew.then0 hf3) (by omega) (by omega)⟩
    intro e a' W hM
    cases e
    case' normal => skip
    all_goals (try exact (hM : False).elim)
    obtain ⟨u0, u1, u2, u3, u7, u9, u10, u11, u12, u13, u14, u15, u16, u17, u18, u19, u20, u21, u22, u23, u24, u25, u26, u27, u28, u29, u30, u31, u32, u33, u34, u35, u36, u37, u38, u39, u40, u41, u42, u43, u44, u45, rfl, hM⟩ := hM
    dsimp only
    clear HR HX HT HB0 m0 n0 l0 m1 n1 l1 m2 n2 l2 m3 n3 l3 hf0 HG HGW W0
    obtain ⟨ax1, cx1, ax2, cx2, ax3, cx3, ax4, cx4, ax5, cx5, hz, ht, hT, hf0⟩ := hM
    have hT : IsTxn W (.agg #[.int .u8 5, .int .u64 st, .int .u64 am, .slice ax1 ws.length cx1, .slice ax2 ks.length cx2, .slice ax3 ns.length cx3, .slice ax4 gs.length cx4, .slice ax5 gs.length cx5, .bool false]) ⟨5, st, am, ws, ks, ns, gs, gs, false⟩ := ⟨_, _, _, _, _, rfl, hT⟩
    go_wp2
    obtain ⟨m0, n0, l0⟩ := box_cells hz
    obtain ⟨m1, n1, l1⟩ := box_cells ht
    have HZ := Lib.hid hz; have HX := Lib.hid ht; have HT := Lib.hid hT
    clear hz ht hT
    refine Code.wp_mono (Q := Exit.then (Back w (w.heap.size + 2) 4 5 6 #[.int .u8 5, .int .u64 st, .int .u64 am, .slice ax1 ws.length cx1, .slice ax2 ks.length cx2, .slice ax3 ns.length cx3, .slice ax4 gs.length cx4, .slice ax5 gs.length cx5, .bool false] ⟨5, st, am, ws, ks, ns, gs, gs, false⟩ (again ⟨5, st, am, ws, ks, ns, gs, gs, false⟩) 0) (fun _ _ _ => False)) ?_ ?_
    case refine_2 =>
      go_region_with (go_at_call 18; go_loud (refine (HA.out _ _ (HT.out.fr0 (Fr.refl _ _).drew)).mono ?_); rintro e w3 ⟨vo, rfl, ho, hf3⟩; have hz1 := hf3.held (w.heap.size + 2) HZ.out; obtain ⟨p0, q0, k0⟩ := box_cells hz1; have ht1 := hf3.held (Bx) HX.out; obtain ⟨p1, q1, k1⟩ := box_cells ht1)
      all_goals exact ⟨vo, rfl, rfl, rfl, rfl, told_store (by omega) hz1 (dull_txn _ _ _ _ _ _ _ _ _ _ _ _ _ _ _ _ _ _ _) (HT.out.fr0 ((Fr.refl _ _).drew.then0 hf3)) ho (hf0.drew.then0 hf3)⟩
    intro e a' W hM
    cases e
    case' normal => skip
    all_goals (try exact (hM : False).elim)
    obtain ⟨vo, d1, d2, d3, d4, hM⟩ := hM
    clear HZ HX HT m0 n0 m1 n1 l0 l1 HA
    go_wp2
    (try simp only [Exit.inBlock, Exit.then])
    exact bodyPost_ret_by (results_row3 rfl _ _ (w.heap.size + 2) 32 _ (0, 0) _ d2 hM.1 d3 d4 Tryz.underlying32 rfl sizeTxn) d1 hM.step

theorem xDecided_any (w : World) (v : Value) (t : Txn) (h : IsTxn w v t) (hv : Inv t) (a : An) (hr : 0 ≤ a.commit ∧ a.commit < 18446744073709551616) :
    Calls Tryz.prog 29 #[v, .agg a.enc.toArray] w fun e w' => StepPost w (sDecided t a).1 (if (sDecided t a).2 = 0 then again (sDecided t a).1 else []) (sDecided t a).2 e w' := by
  by_cases hn : (sDecided t a).2 = 0
  · have hp : t.phase = 4 := by
      by_cases hp : t.phase = 4
      · exact hp
      · rw [sDecided, if_pos hp] at hn; simp at hn
    have hok : ¬ (a.code ≠ 0 ∨ a.commit ≠ 0 ∧ a.commit ≤ t.start) := fun hb => by
      rw [sDecided, if_neg (by omega), if_pos hb] at hn; simp at hn
    rw [if_pos hn]
    have e : sDecided t a = ({ t with phase := 5, commit := a.commit, failed := false, left := t.groups }, 0) := by rw [sDecided, if_neg (by omega), if_neg hok]
    rw [e]
    exact xDecided_yes w v t h hv a hr hp hok
  · rw [if_neg hn]
    have e : (sDecided t a).1 = {} := by
      unfold sDecided at hn ⊢
      split
      · rfl
      · rename_i h1
        rw [if_neg h1] at hn
        split
        · rfl
        · rename_i h2
          rw [if_neg h2] at hn
          exact absurd rfl hn
    rw [e]
    exact xDecided_no w v t h hv a hn
end Go.Proofs.YthidminepegnoaaGreatDoor
namespace Go.Proofs.YthidminepegnoaaGreatDoor
open Go.RowKit Go.Shelf Go.Maps Go.Sort
attribute [local go_sem] Oper.semAt_some
attribute [local irreducible] wpQuiet
set_option linter.unusedVariables false
set_option linter.unusedSimpArgs false

set_option maxRecDepth 100000 in
set_option maxHeartbeats 2000000 in
theorem lStep0 (w : World) (v : Value) (t : Txn) (h : IsTxn w v t) (hv : Inv t) (r : AkV) (a : Ak) (ha : r.Is w a) :
    Calls Tryz.prog 12 #[.int .i64 0, v, .agg r.enc.toArray] w fun e w' => StepPost w (sStarted t a.an).1 ([]) (sStarted t a.an).2 e w' := by
  have hanOk := ha.anOk
  have hX := fun (W : World) (hf : Fr N0 w W) => xStarted_any W v t (h.fr0 hf) hv a.an
  obtain ⟨⟨e1, e2, e3, e4⟩, -, -, -, -, -, -, -⟩ := ha
  obtain ⟨vw, vk, vn, vg, vl, rfl, h⟩ := h
  obtain ⟨⟨aw, cw, rfl⟩, ⟨ak, ck, rfl⟩, ⟨an, cn, rfl⟩, ⟨ag, cg, rfl⟩, ⟨al, cl, rfl⟩⟩ := h.shapes
  clear h
  obtain ⟨S, hS⟩ : ∃ S, (sStarted t a.an) = S := ⟨_, rfl⟩
  obtain ⟨O, hO⟩ : ∃ O, (([] : List Out)) = O := ⟨_, rfl⟩
  rw [hO, hS]
  simp only [hO] at hX
  simp only [hS] at hX
  try simp only [← e1, ← e2, ← e3] at hX
  clear hS hO e1 e2 e3 e4 hanOk
  obtain ⟨⟨ac, af, am, tp, tg, tt, ta, tu⟩, rl, rw_, rt, rg, rc, rp⟩ := r
  unfold AkV.enc An.enc
  try unfold An.enc at hX
  simp only [List.cons_append, List.nil_append] at hX ⊢
  have HX := Lib.hid hX
  clear hX
  go_enter Tryz.func12, Tryz.ntmps12
  go_wp2_with (go_at_call 23; go_loud (refine (HX.out _ (by repeat (first | exact Fr.refl _ _ | assumption | refine Fr.alloc ?_ _ | refine Fr.drew ?_ | refine Fr.drewN ?_ _ | refine Fr.setCell ?_ (.inr (by simp; try omega)) _))).mono ?_); rintro e w1 ⟨v1, vo, rfl, ⟨vw1, vk1, vn1, vg1, vl1, rfl, hT⟩, hO, hf1⟩; have hbr := hf1.held (w.heap.size + 2) (blkN (by simp)); obtain ⟨m2, n2, l2⟩ := box_cells hbr; have HBR := Lib.hid hbr; obtain ⟨⟨aw1, cw1, rfl⟩, ⟨ak1, ck1, rfl⟩, ⟨an1, cn1, rfl⟩, ⟨ag1, cg1, rfl⟩, ⟨al1, cl1, rfl⟩⟩ := hT.shapes; have HT := Lib.hid hT; have HO := Lib.hid hO; clear hbr hT hO)
  (try simp only [Exit.inBlock, Exit.then])
  have hF := ((((Fr.refl N0 w).alloc _).alloc _).alloc _).then0 hf1
  refine bodyPost_ret_by (results_row3 rfl _ _ (w.heap.size + 2) 32 _ (0, 0) _ rfl (txn_box_set HBR.out) rfl rfl Tryz.underlying32 rfl sizeTxn) rfl ?_
  exact (told_store (by omega) HBR.out (dull_txn _ _ _ _ _ _ _ _ _ _ _ _ _ _ _ _ _ _ _) ⟨_, _, _, _, _, rfl, HT.out⟩ HO.out hF).step

set_option maxRecDepth 100000 in
set_option maxHeartbeats 2000000 in
theorem lStep3 (w : World) (v : Value) (t : Txn) (h : IsTxn w v t) (hv : Inv t) (r : AkV) (a : Ak) (ha : r.Is w a) :
    Calls Tryz.prog 12 #[.int .i64 3, v, .agg r.enc.toArray] w fun e w' => StepPost w (sStaged t a.group a.code).1 (if (sStaged t a.group a.code).2 = 0 ∧ (sStaged t a.group a.code).1.phase = 4 then again (sStaged t a.group a.code).1 else []) (sStaged t a.group a.code).2 e w' := by
  have hanOk := ha.anOk
  have hX := fun (W : World) (hf : Fr N0 w W) => xStaged_any W v t (h.fr0 hf) hv a.group a.code
  obtain ⟨⟨e1, e2, e3, e4⟩, -, -, -, -, -, -, -⟩ := ha
  obtain ⟨vw, vk, vn, vg, vl, rfl, h⟩ := h
  obtain ⟨⟨aw, cw, rfl⟩, ⟨ak, ck, rfl⟩, ⟨an, cn, rfl⟩, ⟨ag, cg, rfl⟩, ⟨al, cl, rfl⟩⟩ := h.shapes
  clear h
  obtain ⟨S, hS⟩ : ∃ S, (sStaged t a.group a.code) = S := ⟨_, rfl⟩
  obtain ⟨O, hO⟩ : ∃ O, ((if (sStaged t a.group a.code).2 = 0 ∧ (sStaged t a.group a.code).1.phase = 4 then again (sStaged t a.group a.code).1 else [] : List Out)) = O := ⟨_, rfl⟩
  rw [hO, hS]
  simp only [hO] at hX
  simp only [hS] at hX
  try simp only [← e1, ← e2, ← e3] at hX
  clear hS hO e1 e2 e3 e4 hanOk
  obtain ⟨⟨ac, af, am, tp, tg, tt, ta, tu⟩, rl, rw_, rt, rg, rc, rp⟩ := r
  unfold AkV.enc An.enc
  try unfold An.enc at hX
  simp only [List.cons_append, List.nil_append] at hX ⊢
  have HX := Lib.hid hX
  clear hX
  go_enter Tryz.func12, Tryz.ntmps12
  go_wp2_with (go_at_call 28; go_loud (refine (HX.out _ (by repeat (first | exact Fr.refl _ _ | assumption | refine Fr.alloc ?_ _ | refine Fr.drew ?_ | refine Fr.drewN ?_ _ | refine Fr.setCell ?_ (.inr (by simp; try omega)) _))).mono ?_); rintro e w1 ⟨v1, vo, rfl, ⟨vw1, vk1, vn1, vg1, vl1, rfl, hT⟩, hO, hf1⟩; have hbr := hf1.held (w.heap.size + 2) (blkN (by simp)); obtain ⟨m2, n2, l2⟩ := box_cells hbr; have HBR := Lib.hid hbr; obtain ⟨⟨aw1, cw1, rfl⟩, ⟨ak1, ck1, rfl⟩, ⟨an1, cn1, rfl⟩, ⟨ag1, cg1, rfl⟩, ⟨al1, cl1, rfl⟩⟩ := hT.shapes; have HT := Lib.hid hT; have HO := Lib.hid hO; clear hbr hT hO)
  (try simp only [Exit.inBlock, Exit.then])
  have hF := ((((Fr.refl N0 w).alloc _).alloc _).alloc _).then0 hf1
  refine bodyPost_ret_by (results_row3 rfl _ _ (w.heap.size + 2) 32 _ (0, 0) _ rfl (txn_box_set HBR.out) rfl rfl Tryz.underlying32 rfl sizeTxn) rfl ?_
  exact (told_store (by omega) HBR.out (dull_txn _ _ _ _ _ _ _ _ _ _ _ _ _ _ _ _ _ _ _) ⟨_, _, _, _, _, rfl, HT.out⟩ HO.out hF).step

set_option maxRecDepth 100000 in
set_option maxHeartbeats 2000000 in
theorem lStep4 (w : World) (v : Value) (t : Txn) (h : IsTxn w v t) (hv : Inv t) (r : AkV) (a : Ak) (ha : r.Is w a) :
    Calls Tryz.prog 12 #[.int .i64 4, v, .agg r.enc.toArray] w fun e w' => StepPost w (sDecided t a.an).1 (if (sDecided t a.an).2 = 0 then again (sDecided t a.an).1 else []) (sDecided t a.an).2 e w' := by
  have hanOk := ha.anOk
  have hX := fun (W : World) (hf : Fr N0 w W) => xDecided_any W v t (h.fr0 hf) hv a.an hanOk.2
  obtain ⟨⟨e1, e2, e3, e4⟩, -, -, -, -, -, -, -⟩ := ha
  obtain ⟨vw, vk, vn, vg, vl, rfl, h⟩ := h
  obtain ⟨⟨aw, cw, rfl⟩, ⟨ak, ck, rfl⟩, ⟨an, cn, rfl⟩, ⟨ag, cg, rfl⟩, ⟨al, cl, rfl⟩⟩ := h.shapes
  clear h
  obtain ⟨S, hS⟩ : ∃ S, (sDecided t a.an) = S := ⟨_, rfl⟩
  obtain ⟨O, hO⟩ : ∃ O, ((if (sDecided t a.an).2 = 0 then again (sDecided t a.an).1 else [] : List Out)) = O := ⟨_, rfl⟩
  rw [hO, hS]
  simp only [hO] at hX
  simp only [hS] at hX
  try simp only [← e1, ← e2, ← e3] at hX
  clear hS hO e1 e2 e3 e4 hanOk
  obtain ⟨⟨ac, af, am, tp, tg, tt, ta, tu⟩, rl, rw_, rt, rg, rc, rp⟩ := r
  unfold AkV.enc An.enc
  try unfold An.enc at hX
  simp only [List.cons_append, List.nil_append] at hX ⊢
  have HX := Lib.hid hX
  clear hX
  go_enter Tryz.func12, Tryz.ntmps12
  go_wp2_with (go_at_call 29; go_loud (refine (HX.out _ (by repeat (first | exact Fr.refl _ _ | assumption | refine Fr.alloc ?_ _ | refine Fr.drew ?_ | refine Fr.drewN ?_ _ | refine Fr.setCell ?_ (.inr (by simp; try omega)) _))).mono ?_); rintro e w1 ⟨v1, vo, rfl, ⟨vw1, vk1, vn1, vg1, vl1, rfl, hT⟩, hO, hf1⟩; have hbr := hf1.held (w.heap.size + 2) (blkN (by simp)); obtain ⟨m2, n2, l2⟩ := box_cells hbr; have HBR := Lib.hid hbr; obtain ⟨⟨aw1, cw1, rfl⟩, ⟨ak1, ck1, rfl⟩, ⟨an1, cn1, rfl⟩, ⟨ag1, cg1, rfl⟩, ⟨al1, cl1, rfl⟩⟩ := hT.shapes; have HT := Lib.hid hT; have HO := Lib.hid hO; clear hbr hT hO)
  (try simp only [Exit.inBlock, Exit.then])
  have hF := ((((Fr.refl N0 w).alloc _).alloc _).alloc _).then0 hf1
  refine bodyPost_ret_by (results_row3 rfl _ _ (w.heap.size + 2) 32 _ (0, 0) _ rfl (txn_box_set HBR.out) rfl rfl Tryz.underlying32 rfl sizeTxn) rfl ?_
  exact (told_store (by omega) HBR.out (dull_txn _ _ _ _ _ _ _ _ _ _ _ _ _ _ _ _ _ _ _) ⟨_, _, _, _, _, rfl, HT.out⟩ HO.out hF).step

set_option maxRecDepth 100000 in
set_option maxHeartbeats 2000000 in
theorem lStep5 (w : World) (v : Value) (t : Txn) (h : IsTxn w v t) (hv : Inv t) (r : AkV) (a : Ak) (ha : r.Is w a) :
    Calls Tryz.prog 12 #[.int .i64 5, v, .agg r.enc.toArray] w fun e w' => StepPost w (sFinaled t a.group a.code).1 (if (sFinaled t a.group a.code).2 = 0 ∧ a.code ≠ 0 then [{ group := a.group, skind := 3, sstart := t.start, scommit := t.commit }] else []) (sFinaled t a.group a.code).2 e w' := by
  have hanOk := ha.anOk
  have hX := fun (W : World) (hf : Fr N0 w W) => xFinaled_any W v t (h.fr0 hf) hv a.group a.code
  obtain ⟨⟨e1, e2, e3, e4⟩, -, -, -, -, -, -, -⟩ := ha
  obtain ⟨vw, vk, vn, vg, vl, rfl, h⟩ := h
  obtain ⟨⟨aw, cw, rfl⟩, ⟨ak, ck, rfl⟩, ⟨an, cn, rfl⟩, ⟨ag, cg, rfl⟩, ⟨al, cl, rfl⟩⟩ := h.shapes
  clear h
  obtain ⟨S, hS⟩ : ∃ S, (sFinaled t a.group a.code) = S := ⟨_, rfl⟩
  obtain ⟨O, hO⟩ : ∃ O, ((if (sFinaled t a.group a.code).2 = 0 ∧ a.code ≠ 0 then [{ group := a.group, skind := 3, sstart := t.start, scommit := t.commit }] else [] : List Out)) = O := ⟨_, rfl⟩
  rw [hO, hS]
  simp only [hO] at hX
  simp only [hS] at hX
  try simp only [← e1, ← e2, ← e3] at hX
  clear hS hO e1 e2 e3 e4 hanOk
  obtain ⟨⟨ac, af, am, tp, tg, tt, ta, tu⟩, rl, rw_, rt, rg, rc, rp⟩ := r
  unfold AkV.enc An.enc
  try unfold An.enc at hX
  simp only [List.cons_append, List.nil_append] at hX ⊢
  have HX := Lib.hid hX
  clear hX
  go_enter Tryz.func12, Tryz.ntmps12
  go_wp2_with (go_at_call 30; go_loud (refine (HX.out _ (by repeat (first | exact Fr.refl _ _ | assumption | refine Fr.alloc ?_ _ | refine Fr.drew ?_ | refine Fr.drewN ?_ _ | refine Fr.setCell ?_ (.inr (by simp; try omega)) _))).mono ?_); rintro e w1 ⟨v1, vo, rfl, ⟨vw1, vk1, vn1, vg1, vl1, rfl, hT⟩, hO, hf1⟩; have hbr := hf1.held (w.heap.size + 2) (blkN (by simp)); obtain ⟨m2, n2, l2⟩ := box_cells hbr; have HBR := Lib.hid hbr; obtain ⟨⟨aw1, cw1, rfl⟩, ⟨ak1, ck1, rfl⟩, ⟨an1, cn1, rfl⟩, ⟨ag1, cg1, rfl⟩, ⟨al1, cl1, rfl⟩⟩ := hT.shapes; have HT := Lib.hid hT; have HO := Lib.hid hO; clear hbr hT hO)
  (try simp only [Exit.inBlock, Exit.then])
  have hF := ((((Fr.refl N0 w).alloc _).alloc _).alloc _).then0 hf1
  refine bodyPost_ret_by (results_row3 rfl _ _ (w.heap.size + 2) 32 _ (0, 0) _ rfl (txn_box_set HBR.out) rfl rfl Tryz.underlying32 rfl sizeTxn) rfl ?_
  exact (told_store (by omega) HBR.out (dull_txn _ _ _ _ _ _ _ _ _ _ _ _ _ _ _ _ _ _ _) ⟨_, _, _, _, _, rfl, HT.out⟩ HO.out hF).step

set_option maxRecDepth 100000 in
set_option maxHeartbeats 2000000 in
theorem lStep6 (w : World) (v : Value) (t : Txn) (h : IsTxn w v t) (hv : Inv t) (r : AkV) (a : Ak) (ha : r.Is w a) :
    Calls Tryz.prog 12 #[.int .i64 6, v, .agg r.enc.toArray] w fun e w' => StepPost w (sGive t).1 (if (sGive t).2 = 0 then again (sGive t).1 else []) (sGive t).2 e w' := by
  have hanOk := ha.anOk
  have hX := fun (W : World) (hf : Fr N0 w W) => xGive_any W v t (h.fr0 hf) hv
  obtain ⟨⟨e1, e2, e3, e4⟩, -, -, -, -, -, -, -⟩ := ha
  obtain ⟨vw, vk, vn, vg, vl, rfl, h⟩ := h
  obtain ⟨⟨aw, cw, rfl⟩, ⟨ak, ck, rfl⟩, ⟨an, cn, rfl⟩, ⟨ag, cg, rfl⟩, ⟨al, cl, rfl⟩⟩ := h.shapes
  clear h
  obtain ⟨S, hS⟩ : ∃ S, (sGive t) = S := ⟨_, rfl⟩
  obtain ⟨O, hO⟩ : ∃ O, ((if (sGive t).2 = 0 then again (sGive t).1 else [] : List Out)) = O := ⟨_, rfl⟩
  rw [hO, hS]
  simp only [hO] at hX
  simp only [hS] at hX
  try simp only [← e1, ← e2, ← e3] at hX
  clear hS hO e1 e2 e3 e4 hanOk
  obtain ⟨⟨ac, af, am, tp, tg, tt, ta, tu⟩, rl, rw_, rt, rg, rc, rp⟩ := r
  unfold AkV.enc An.enc
  try unfold An.enc at hX
  simp only [List.cons_append, List.nil_append] at hX ⊢
  have HX := Lib.hid hX
  clear hX
  go_enter Tryz.func12, Tryz.ntmps12
  go_wp2_with (go_at_call 35; go_loud (refine (HX.out _ (by repeat (first | exact Fr.refl _ _ | assumption | refine Fr.alloc ?_ _ | refine Fr.drew ?_ | refine Fr.drewN ?_ _ | refine Fr.setCell ?_ (.inr (by simp; try omega)) _))).mono ?_); rintro e w1 ⟨v1, vo, rfl, ⟨vw1, vk1, vn1, vg1, vl1, rfl, hT⟩, hO, hf1⟩; have hbr := hf1.held (w.heap.size + 2) (blkN (by simp)); obtain ⟨m2, n2, l2⟩ := box_cells hbr; have HBR := Lib.hid hbr; obtain ⟨⟨aw1, cw1, rfl⟩, ⟨ak1, ck1, rfl⟩, ⟨an1, cn1, rfl⟩, ⟨ag1, cg1, rfl⟩, ⟨al1, cl1, rfl⟩⟩ := hT.shapes; have HT := Lib.hid hT; have HO := Lib.hid hO; clear hbr hT hO)
  (try simp only [Exit.inBlock, Exit.then])
  have hF := ((((Fr.refl N0 w).alloc _).alloc _).alloc _).then0 hf1
  refine bodyPost_ret_by (results_row3 rfl _ _ (w.heap.size + 2) 32 _ (0, 0) _ rfl (txn_box_set HBR.out) rfl rfl Tryz.underlying32 rfl sizeTxn) rfl ?_
  exact (told_store (by omega) HBR.out (dull_txn _ _ _ _ _ _ _ _ _ _ _ _ _ _ _ _ _ _ _) ⟨_, _, _, _, _, rfl, HT.out⟩ HO.out hF).step

end Go.Proofs.YthidminepegnoaaGreatDoor
