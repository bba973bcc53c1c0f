/- The program's Staged. -/
import Derived.Test.YthidminepegnoaaGreatDoorQRSteps
import Derived.Test.YthidminepegnoaaGreatDoorQLivesL
import Derived.Test.YthidminepegnoaaGreatDoorQDel3
namespace Go.Proofs.YthidminepegnoaaGreatDoor
open Go.RowKit Go.Shelf Go.Maps Go.Sort
attribute [local go_sem] Oper.semAt_some
attribute [local irreducible] wpQuiet
set_option linter.unusedVariables false
set_option linter.unusedSimpArgs false

theorem erase_place {l : List Int} {g : Int} (h : g ∈ l) : ∃ k : Nat, k < l.length ∧ placeI l g = k ∧ l.erase g = l.eraseIdx k := by
  have h1 := placeI_ge h
  have h2 := placeI_lt h
  refine ⟨(placeI l g).toNat, by omega, by omega, ?_⟩
  have h3 : l.idxOf g = (placeI l g).toNat := by
    unfold placeI
    have : l.findIdx (· == g) < l.length := List.findIdx_lt_length_of_exists ⟨g, h, by simp⟩
    rw [if_pos this]
    rfl
  exact List.erase_eq_eraseIdx_of_idxOf h3
theorem place_neg {l : List Int} {g : Int} (h : g ∉ l) : placeI l g = -1 := by
  have h1 := place_ge (xs := l) (g := g)
  unfold placeI at h1 ⊢
  split
  · rename_i h2
    rw [if_pos h2] at h1
    simp [h] at h1
  · rfl

set_option maxRecDepth 100000 in
set_option maxHeartbeats 2000000 in
/-- .. refused: not the phase. -/
theorem xStaged_no1 (w : World) (v : Value) (t : Txn) (h : IsTxn w v t) (hv : Inv t) (g code : Int) (hp : t.phase ≠ 3) :
    Calls Tryz.prog 28 #[v, .int .u32 g, .int .i64 code] w fun e w' => StepPost w {} [] 3 e w' := by
  have hC := fun (W : World) (hf : Fr N0 w W) B hB => xcheck1 W v t (h.fr0 hf) hv B 3 (by decide) hB
  obtain ⟨vw, vk, vn, vg, vl, rfl, h⟩ := h
  clear h hv
  obtain ⟨ph, st, cm, ws, ks, ns, gs, ls, fl⟩ := t
  simp only at hp hC
  simp only [if_neg hp] at hC
  have HC := Lib.hid hC
  clear hC hp
  go_enter Tryz.func28, Tryz.ntmps28
  go_wp2_with (go_at_call 62; go_loud (refine (HC.out _ (by repeat (first | exact Fr.refl _ _ | assumption | refine Fr.alloc ?_ _ | refine Fr.drew ?_ | refine Fr.drewN ?_ _ | refine Fr.setCell ?_ (.inr (by simp; try omega)) _)) _ (cell_new1 _ _ _ _ (by simp))).mono ?_); rintro e w1 ⟨rfl, hf1⟩; have hbr := hf1.held (w.heap.size + 1) (blk0 (blkN (by simp))); obtain ⟨m2, n2, l2⟩ := box_cells hbr; have HBR := Lib.hid hbr; clear hbr)
  (try simp only [Exit.inBlock, Exit.then])
  have hF := ((((Fr.refl N0 w).alloc _).alloc _).alloc _).then0 hf1
  refine bodyPost_ret_by (results_row3 rfl _ _ (w.heap.size + 1) 32 _ (0, 0) _ rfl (txn_box_set HBR.out) rfl rfl Tryz.underlying32 rfl sizeTxn) rfl ?_
  exact (told_nums (by omega) HBR.out hF).step

set_option maxRecDepth 100000 in
set_option maxHeartbeats 2000000 in
/-- .. refused: it is not waited for. -/
theorem xStaged_no2 (w : World) (v : Value) (t : Txn) (h : IsTxn w v t) (hv : Inv t) (g code : Int) (hp : t.phase = 3) (hg : g ∉ t.left) :
    Calls Tryz.prog 28 #[v, .int .u32 g, .int .i64 code] w fun e w' => StepPost w {} [] 5 e w' := by
  have hC := fun (W : World) (hf : Fr N0 w W) B hB => xcheck1 W v t (h.fr0 hf) hv B 3 (by decide) hB
  have hlf := hv.fewLeft
  obtain ⟨vw, vk, vn, vg, vl, rfl, h⟩ := h
  obtain ⟨bl, hl⟩ := h.ls
  have hI := fun (W : World) (hf : Fr N0 w W) => idx3_any W bl vl t.left (hl.fr0 hf) g (by omega)
  rw [place_neg hg] at hI
  clear h hv hl hlf hg
  obtain ⟨ph, st, cm, ws, ks, ns, gs, ls, fl⟩ := t
  simp only at hp hC hI
  simp only [if_pos hp] at hC
  have HC := Lib.hid hC; have HI := Lib.hid hI
  clear hC hp hI
  go_enter Tryz.func28, Tryz.ntmps28
  go_wp2_with (first
    | (go_at_call 62; go_loud (refine (HC.out _ (by repeat (first | exact Fr.refl _ _ | assumption | refine Fr.alloc ?_ _ | refine Fr.drew ?_ | refine Fr.drewN ?_ _ | refine Fr.setCell ?_ (.inr (by simp; try omega)) _)) _ (cell_new1 _ _ _ _ (by simp))).mono ?_); rintro e w1 ⟨rfl, hf1⟩; have hbt := hf1.held w.heap.size (blk0 (blk0 (blkN rfl))); obtain ⟨m0, n0, l0⟩ := box_cells hbt; have hbr := hf1.held (w.heap.size + 1) (blk0 (blkN (by simp))); obtain ⟨m2, n2, l2⟩ := box_cells hbr; have HBR := Lib.hid hbr; clear hbr hbt)
    | (go_at_call 70; go_loud (refine (HI.out _ (Fr.then0 (by repeat (first | exact Fr.refl _ _ | assumption | refine Fr.alloc ?_ _ | refine Fr.drew ?_ | refine Fr.drewN ?_ _ | refine Fr.setCell ?_ (.inr (by simp; try omega)) _)) hf1)).mono ?_); rintro e w2 ⟨rfl, hf2⟩; have hbr := hf2.held (w.heap.size + 1) HBR.out; obtain ⟨m2', n2', l2'⟩ := box_cells hbr; have HBR2 := Lib.hid hbr; clear hbr))
  (try simp only [Exit.inBlock, Exit.then])
  have hF := ((((Fr.refl N0 w).alloc _).alloc _).alloc _).then0 hf1 |>.then0 hf2
  refine bodyPost_ret_by (results_row3 rfl _ _ (w.heap.size + 1) 32 _ (0, 0) _ rfl (txn_box_set HBR2.out) rfl rfl Tryz.underlying32 rfl sizeTxn) rfl ?_
  exact (told_nums (by omega) HBR2.out hF).step

/-- Delete of one group out of x's own row, behind own and x's box. -/
theorem left_del {w0 w2 : World} {vw vk vn vg vl : Value} {t : Txn} (hT : TxnIn w2 vw vk vn vg vl t) (hL : LeftFree w0 w2 vw vk vn vg vl t) (hlw : ∀ x ∈ t.left, (Lit.int .u32 x).wf = true) (k : Nat) (hk : k < t.left.length) (W : World) (o : Obj) (hW : W = w2.alloc o) :
    Calls Tryz.prog 71 #[vl, .int .i64 k, .int .i64 (k + 1)] W fun e w' => ∃ a c, e = .returned (.slice a (t.left.eraseIdx k).length c) ∧ TxnIn w' vw vk vn vg (.slice a (t.left.eraseIdx k).length c) { t with left := t.left.eraseIdx k } ∧
      (∀ j o', j < w0.heap.size → w2.heap[j]? = some o' → w'.heap[j]? = some o') ∧ w'.heap[w2.heap.size]? = some o ∧ ∀ wa, Fr N0 wa w2 → wa.heap.size ≤ w0.heap.size → Fr N0 wa w' := by
  subst hW
  have hf : Fr N0 w2 (w2.alloc o) := (Fr.refl _ _).alloc _
  have hL2 := hL.fr0 hf
  have hown := hL2.own
  have hown2 := hL.own
  refine (del3_any (w2.alloc o) w0.heap.size vl t.left hown hlw k hk).mono ?_
  rintro e w' ⟨a, c, rfl, hI, hf'⟩
  have hlen : (t.left.eraseIdx k).length = t.left.length - 1 := by rw [List.length_eraseIdx, if_pos hk]
  obtain ⟨h1, h2, h3, h4⟩ := hL2.lists hf'
  rw [hlen]
  refine ⟨a, c, rfl, ⟨h1, h2, h3, h4, hI, hT.n0⟩, fun j o' hj hjo => ?_, ?_, fun wa hfa hsz => ?_⟩
  · have hb : (w2.alloc o).heap[j]? = some o' := blk0 hjo
    exact (hf'.at (fun e => by have := (hown.lt j e).1; omega) (lt_of_block hb)).trans hb
  · have hb : (w2.alloc o).heap[w2.heap.size]? = some o := blkN rfl
    exact (hf'.at (fun e => by have := (hown2.lt _ e).2; omega) (lt_of_block hb)).trans hb
  · exact (hfa.alloc o).trans hf' fun j hj => .inr (by have := (hown.lt j hj).1; omega)

/-- What is sent is laid behind the result's stores. -/
theorem Told.sent {w W : World} {R : Nat} {cs : Array Value} {t : Txn} {vo : Value} {outs : List Out} (h : Told w W R cs t vo outs) (o : Obj) {vo' : Value} {outs' : List Out} (ho : Outs (W.alloc o) vo' outs') : Told w (W.alloc o) R cs t vo' outs' :=
  ⟨blk0 h.1, h.2.1.fr0 ((Fr.refl _ _).alloc _), ho, h.2.2.2.alloc _⟩
theorem Told.drew {w W : World} {R : Nat} {cs : Array Value} {t : Txn} {vo : Value} {outs : List Out} (h : Told w W R cs t vo outs) : Told w W.drew R cs t vo outs :=
  ⟨h.1, h.2.1.fr0 (Fr.refl _ _).drew, h.2.2.1.fr0 (Fr.refl _ _).drew, h.2.2.2.drew⟩
/-- The result's box, x's box, the lists. -/
def XB (w W : World) (R Bx : Nat) (cs : Array Value) (vw vk vn vg vl : Value) (t : Txn) : Prop :=
  W.heap[R]? = some (.cells #[.int .u8 0, .int .u64 0, .int .u64 0, .slice none 0 0, .slice none 0 0, .slice none 0 0, .slice none 0 0, .slice none 0 0, .bool false] 32 (0, 0)) ∧ W.heap[Bx]? = some (.cells cs 32 (0, 0)) ∧ TxnIn W vw vk vn vg vl t ∧ Fr N0 w W
theorem XB.set {w W : World} {R Bx : Nat} {cs : Array Value} {vw vk vn vg vl : Value} {t : Txn} (h : XB w W R Bx cs vw vk vn vg vl t) (hd : Dull cs) (hB : w.heap.size ≤ Bx) (hR : R ≠ Bx) (i : Nat) (v : Value) : XB w (W.setCell ⟨Bx, i, none⟩ v) R Bx (cs.setIfInBounds i v) vw vk vn vg vl t := by
  obtain ⟨h1, h2, h3, h4⟩ := h
  have hf : Fr (fun k => k = Bx) W (W.setCell ⟨Bx, i, none⟩ v) := (Fr.refl (fun k => k = Bx) W).setCell (p := ⟨Bx, i, none⟩) (.inl rfl) v
  exact ⟨(hf.at hR (lt_of_block h1)).trans h1, box_set h2, h3.past h2 hd hf, h4.trans hf fun k hk => .inr (by rw [show k = Bx from hk]; exact hB)⟩
/-- x's box behind the stores of what is left and whether it failed. -/
theorem left_end {w w4 : World} {R Bx : Nat} {ph st cm : Int} {ws : List Wr} {ks : List ByteArray} {ns : List Rt} {gs es : List Int} {aw ak an ag al a4 : Option Addr} {cw ck cn cg cl c4 nl : Nat} {fl : Bool} (f2 : Bool)
    (hz : w4.heap[R]? = some (.cells #[.int .u8 0, .int .u64 0, .int .u64 0, .slice none 0 0, .slice none 0 0, .slice none 0 0, .slice none 0 0, .slice none 0 0, .bool false] 32 (0, 0)))
    (hx : w4.heap[Bx]? = some (.cells #[.int .u8 ph, .int .u64 st, .int .u64 cm, .slice aw ws.length cw, .slice ak ks.length ck, .slice an ns.length cn, .slice ag gs.length cg, .slice al nl cl, .bool fl] 32 (0, 0)))
    (hT : TxnIn w4 (.slice aw ws.length cw) (.slice ak ks.length ck) (.slice an ns.length cn) (.slice ag gs.length cg) (.slice a4 es.length c4) ⟨ph, st, cm, ws, ks, ns, gs, es, fl⟩) (hF : Fr N0 w w4) (hB : w.heap.size ≤ Bx) (hR : R ≠ Bx) :
    XB w ((w4.setCell ⟨Bx, 7, none⟩ (.slice a4 es.length c4)).setCell ⟨Bx, 8, none⟩ (.bool f2)) R Bx #[.int .u8 ph, .int .u64 st, .int .u64 cm, .slice aw ws.length cw, .slice ak ks.length ck, .slice an ns.length cn, .slice ag gs.length cg, .slice a4 es.length c4, .bool f2] (.slice aw ws.length cw) (.slice ak ks.length ck) (.slice an ns.length cn) (.slice ag gs.length cg) (.slice a4 es.length c4) ⟨ph, st, cm, ws, ks, ns, gs, es, f2⟩ := by
  have h0 : XB w w4 R Bx _ _ _ _ _ _ _ := ⟨hz, hx, hT, hF⟩
  have h1 := h0.set (dull_txn _ _ _ _ _ _ _ _ _ _ _ _ _ _ _ _ _ _ _) hB hR 7 (.slice a4 es.length c4)
  simp only [List.setIfInBounds_toArray, List.set_cons_zero, List.set_cons_succ] at h1
  have h2 := h1.set (dull_txn _ _ _ _ _ _ _ _ _ _ _ _ _ _ _ _ _ _ _) hB hR 8 (.bool f2)
  simp only [List.setIfInBounds_toArray, List.set_cons_zero, List.set_cons_succ] at h2
  exact ⟨h2.1, h2.2.1, ⟨h2.2.2.1.ws, h2.2.2.1.ks, h2.2.2.1.ns, h2.2.2.1.gs, h2.2.2.1.ls, h2.2.2.1.n0⟩, h2.2.2.2⟩

set_option maxRecDepth 100000 in
set_option maxHeartbeats 4000000 in
theorem xStaged_more (w : World) (v : Value) (t : Txn) (h : IsTxn w v t) (hv : Inv t) (g code : Int) (hp : t.phase = 3) (hg : g ∈ t.left) (hne : t.left.erase g ≠ []) :
    Calls Tryz.prog 28 #[v, .int .u32 g, .int .i64 code] w fun e w' => StepPost w { t with left := t.left.erase g, failed := t.failed || decide (code ≠ 0), phase := 3 } [] 0 e w' := by
  have hC := fun (W : World) (hf : Fr N0 w W) B hB => xcheck1 W v t (h.fr0 hf) hv B 3 (by decide) hB
  have hO := fun (W : World) (hf : Fr N0 w W) => xown2_any W v t (h.fr0 hf) hv
  have hlf := hv.fewLeft
  obtain ⟨vw, vk, vn, vg, vl, rfl, h⟩ := h
  obtain ⟨bl, hl⟩ := h.ls
  have hlw := hl.wf
  have hI := fun (W : World) (hf : Fr N0 w W) => idx3_any W bl vl t.left (hl.fr0 hf) g (by omega)
  obtain ⟨k, hk, hpl, her⟩ := erase_place hg
  rw [hpl] at hI
  rw [her] at hne ⊢
  obtain ⟨f2, hf2⟩ : ∃ f2, (t.failed || decide (code ≠ 0)) = f2 := ⟨_, rfl⟩
  have hcs : (t.failed = true ∧ f2 = true) ∨ (t.failed = false ∧ (code != 0) = f2) := by
    rw [← hf2]; cases t.failed
    · exact .inr ⟨rfl, by by_cases h : code = 0 <;> simp [h]⟩
    · exact .inl ⟨rfl, rfl⟩
  rw [hf2]
  have hD := fun (w0 w2 : World) (vw vk vn vg vl : Value) (hT : TxnIn w2 vw vk vn vg vl t) (hL : LeftFree w0 w2 vw vk vn vg vl t) W o hW => left_del hT hL hlw k hk W o hW
  have hkw : wrap64 ((k : Int) + 1) = (k : Int) + 1 := by unfold wrap64; omega
  clear h hv hl hlf hf2 her hpl hlw hg
  obtain ⟨ph, st, cm, ws, ks, ns, gs, ls, fl⟩ := t
  simp only at hp hC hI hO hcs hne hD hk ⊢
  have hnz : decide (0 < (ls.eraseIdx k).length) = true := decide_eq_true (List.length_pos_iff.2 hne)
  obtain ⟨es, hes⟩ : ∃ es, ls.eraseIdx k = es := ⟨_, rfl⟩
  rw [hes] at hnz ⊢
  simp only [hes] at hD
  subst hp
  simp only [if_true] at hC
  have HC := Lib.hid hC; have HI := Lib.hid hI; have HO := Lib.hid hO; have HD := Lib.hid hD
  clear hC hI hO hD hes hne
  have hk0 : ¬ (k : Int) < 0 := by omega
  rcases hcs with ⟨rfl, rfl⟩ | ⟨rfl, hd⟩
  · skip
    go_enter Tryz.func28, Tryz.ntmps28
    go_wp2_with (first
      | (go_at_call 62; go_loud (refine (HC.out _ (by repeat (first | exact Fr.refl _ _ | assumption | refine Fr.alloc ?_ _ | refine Fr.drew ?_ | refine Fr.drewN ?_ _ | refine Fr.setCell ?_ (.inr (by simp; try omega)) _)) _ (cell_new1 _ _ _ _ (by simp))).mono ?_); rintro e w1 ⟨rfl, hf1⟩; have hbt := hf1.held w.heap.size (blk0 (blk0 (blkN rfl))); obtain ⟨m0, n0, l0⟩ := box_cells hbt; have hbr := hf1.held (w.heap.size + 1) (blk0 (blkN (by simp))); obtain ⟨m2, n2, l2⟩ := box_cells hbr; have HBR := Lib.hid hbr; have HBT := Lib.hid hbt; clear hbr hbt)
      | (go_at_call 70; go_loud (refine (HI.out _ (Fr.then0 (by repeat (first | exact Fr.refl _ _ | assumption | refine Fr.alloc ?_ _ | refine Fr.drew ?_ | refine Fr.drewN ?_ _ | refine Fr.setCell ?_ (.inr (by simp; try omega)) _)) hf1)).mono ?_); rintro e w2 ⟨rfl, hf2⟩; have hbt := hf2.held w.heap.size HBT.out; obtain ⟨m0', n0', l0'⟩ := box_cells hbt; have hbr := hf2.held (w.heap.size + 1) HBR.out; obtain ⟨m2', n2', l2'⟩ := box_cells hbr; have HBR2 := Lib.hid hbr; have HBT2 := Lib.hid hbt; clear hbr hbt)
      | (go_at_call 65; go_loud (refine (HO.out _ (Fr.then0 (Fr.then0 (by repeat (first | exact Fr.refl _ _ | assumption | refine Fr.alloc ?_ _ | refine Fr.drew ?_ | refine Fr.drewN ?_ _ | refine Fr.setCell ?_ (.inr (by simp; try omega)) _)) hf1) hf2)).mono ?_); rintro e w3 ⟨vw2, vk2, vn2, vg2, vl2, rfl, hT, hLF, hf3⟩; have hbt := hf3.held w.heap.size HBT2.out; obtain ⟨m0'', n0'', l0''⟩ := box_cells hbt; have hbr := hf3.held (w.heap.size + 1) HBR2.out; obtain ⟨m2'', n2'', l2''⟩ := box_cells hbr; have HBR3 := Lib.hid hbr; have HBT3 := Lib.hid hbt; obtain ⟨⟨aw, cw, rfl⟩, ⟨ak, ck, rfl⟩, ⟨an, cn, rfl⟩, ⟨ag, cg, rfl⟩, ⟨al, cl, rfl⟩⟩ := hT.shapes; have HT := Lib.hid hT; have HLF := Lib.hid hLF; clear hbr hbt hT hLF)
      | (go_at_call 71; go_loud (refine (HD.out _ _ _ _ _ _ _ HT.out HLF.out _ _ rfl).mono ?_); rintro e w4 ⟨a4, c4, rfl, hT4, hkeep, hbx, hf4⟩; have hbt := hkeep _ _ (by omega) HBT3.out; obtain ⟨p0, q0, r0⟩ := box_cells hbt; have hbr := hkeep _ _ (by omega) HBR3.out; obtain ⟨p1, q1, r1⟩ := box_cells hbr; obtain ⟨p2, q2, r2⟩ := box_cells hbx; have HBR4 := Lib.hid hbr; have HBX := Lib.hid hbx; have HT4 := Lib.hid hT4; have HF4 := Lib.hid hf4; clear hbr hbt hbx hT4 hf4 hkeep))
    (try simp only [Exit.inBlock, Exit.then])
    have hF := ((((Fr.refl N0 w).alloc _).alloc _).alloc _).then0 hf1 |>.then0 hf2 |>.then0 hf3
    have hF4 := HF4.out w hF (by omega)
    have hX := left_end (f2 := true) HBR4.out HBX.out HT4.out hF4 (by omega) (by omega)
    refine bodyPost_ret_by (results_row3 rfl _ _ (w.heap.size + 1) 32 _ (0, 0) _ rfl (txn_box_set hX.1) rfl rfl Tryz.underlying32 rfl sizeTxn) rfl ?_
    exact (told_store (t := ⟨3, st, cm, ws, ks, ns, gs, es, true⟩) (by omega) hX.1 (dull_txn _ _ _ _ _ _ _ _ _ _ _ _ _ _ _ _ _ _ _) ⟨_, _, _, _, _, rfl, hX.2.2.1⟩ (outs_nil _) hX.2.2.2).step
  · skip
    go_enter Tryz.func28, Tryz.ntmps28
    go_wp2_with (first
      | (go_at_call 62; go_loud (refine (HC.out _ (by repeat (first | exact Fr.refl _ _ | assumption | refine Fr.alloc ?_ _ | refine Fr.drew ?_ | refine Fr.drewN ?_ _ | refine Fr.setCell ?_ (.inr (by simp; try omega)) _)) _ (cell_new1 _ _ _ _ (by simp))).mono ?_); rintro e w1 ⟨rfl, hf1⟩; have hbt := hf1.held w.heap.size (blk0 (blk0 (blkN rfl))); obtain ⟨m0, n0, l0⟩ := box_cells hbt; have hbr := hf1.held (w.heap.size + 1) (blk0 (blkN (by simp))); obtain ⟨m2, n2, l2⟩ := box_cells hbr; have HBR := Lib.hid hbr; have HBT := Lib.hid hbt; clear hbr hbt)
      | (go_at_call 70; go_loud (refine (HI.out _ (Fr.then0 (by repeat (first | exact Fr.refl _ _ | assumption | refine Fr.alloc ?_ _ | refine Fr.drew ?_ | refine Fr.drewN ?_ _ | refine Fr.setCell ?_ (.inr (by simp; try omega)) _)) hf1)).mono ?_); rintro e w2 ⟨rfl, hf2⟩; have hbt := hf2.held w.heap.size HBT.out; obtain ⟨m0', n0', l0'⟩ := box_cells hbt; have hbr := hf2.held (w.heap.size + 1) HBR.out; obtain ⟨m2', n2', l2'⟩ := box_cells hbr; have HBR2 := Lib.hid hbr; have HBT2 := Lib.hid hbt; clear hbr hbt)
      | (go_at_call 65; go_loud (refine (HO.out _ (Fr.then0 (Fr.then0 (by repeat (first | exact Fr.refl _ _ | assumption | refine Fr.alloc ?_ _ | refine Fr.drew ?_ | refine Fr.drewN ?_ _ | refine Fr.setCell ?_ (.inr (by simp; try omega)) _)) hf1) hf2)).mono ?_); rintro e w3 ⟨vw2, vk2, vn2, vg2, vl2, rfl, hT, hLF, hf3⟩; have hbt := hf3.held w.heap.size HBT2.out; obtain ⟨m0'', n0'', l0''⟩ := box_cells hbt; have hbr := hf3.held (w.heap.size + 1) HBR2.out; obtain ⟨m2'', n2'', l2''⟩ := box_cells hbr; have HBR3 := Lib.hid hbr; have HBT3 := Lib.hid hbt; obtain ⟨⟨aw, cw, rfl⟩, ⟨ak, ck, rfl⟩, ⟨an, cn, rfl⟩, ⟨ag, cg, rfl⟩, ⟨al, cl, rfl⟩⟩ := hT.shapes; have HT := Lib.hid hT; have HLF := Lib.hid hLF; clear hbr hbt hT hLF)
      | (go_at_call 71; go_loud (refine (HD.out _ _ _ _ _ _ _ HT.out HLF.out _ _ rfl).mono ?_); rintro e w4 ⟨a4, c4, rfl, hT4, hkeep, hbx, hf4⟩; have hbt := hkeep _ _ (by omega) HBT3.out; obtain ⟨p0, q0, r0⟩ := box_cells hbt; have hbr := hkeep _ _ (by omega) HBR3.out; obtain ⟨p1, q1, r1⟩ := box_cells hbr; obtain ⟨p2, q2, r2⟩ := box_cells hbx; have HBR4 := Lib.hid hbr; have HBX := Lib.hid hbx; have HT4 := Lib.hid hT4; have HF4 := Lib.hid hf4; clear hbr hbt hbx hT4 hf4 hkeep))
    (try simp only [Exit.inBlock, Exit.then])
    have hF := ((((Fr.refl N0 w).alloc _).alloc _).alloc _).then0 hf1 |>.then0 hf2 |>.then0 hf3
    have hF4 := HF4.out w hF (by omega)
    have hX := left_end (f2 := f2) HBR4.out HBX.out HT4.out hF4 (by omega) (by omega)
    refine bodyPost_ret_by (results_row3 rfl _ _ (w.heap.size + 1) 32 _ (0, 0) _ rfl (txn_box_set hX.1) rfl rfl Tryz.underlying32 rfl sizeTxn) rfl ?_
    exact (told_store (t := ⟨3, st, cm, ws, ks, ns, gs, es, f2⟩) (by omega) hX.1 (dull_txn _ _ _ _ _ _ _ _ _ _ _ _ _ _ _ _ _ _ _) ⟨_, _, _, _, _, rfl, hX.2.2.1⟩ (outs_nil _) hX.2.2.2).step

set_option maxRecDepth 100000 in
set_option maxHeartbeats 4000000 in
theorem xStaged_last (w : World) (v : Value) (t : Txn) (h : IsTxn w v t) (hv : Inv t) (g code : Int) (hp : t.phase = 3) (hg : g ∈ t.left) (hne : t.left.erase g = []) :
    Calls Tryz.prog 28 #[v, .int .u32 g, .int .i64 code] w fun e w' => StepPost w { t with left := t.left.erase g, failed := t.failed || decide (code ≠ 0), phase := 4 } (again { t with left := t.left.erase g, failed := t.failed || decide (code ≠ 0), phase := 4 }) 0 e w' := by
  have hC := fun (W : World) (hf : Fr N0 w W) B hB => xcheck1 W v t (h.fr0 hf) hv B 3 (by decide) hB
  have hi := inv_staged (g := g) (code := code) hv
  rw [sStaged, if_neg (by omega), if_neg (by simpa using hg), if_pos hne] at hi
  have hA := fun W v hq => xAgain_any W v _ hq (hi rfl)
  have hO := fun (W : World) (hf : Fr N0 w W) => xown2_any W v t (h.fr0 hf) hv
  have hlf := hv.fewLeft
  obtain ⟨vw, vk, vn, vg, vl, rfl, h⟩ := h
  obtain ⟨bl, hl⟩ := h.ls
  have hlw := hl.wf
  have hI := fun (W : World) (hf : Fr N0 w W) => idx3_any W bl vl t.left (hl.fr0 hf) g (by omega)
  obtain ⟨k, hk, hpl, her⟩ := erase_place hg
  rw [hpl] at hI
  rw [her] at hne hA ⊢
  obtain ⟨f2, hf2⟩ : ∃ f2, (t.failed || decide (code ≠ 0)) = f2 := ⟨_, rfl⟩
  have hcs : (t.failed = true ∧ f2 = true) ∨ (t.failed = false ∧ (code != 0) = f2) := by
    rw [← hf2]; cases t.failed
    · exact .inr ⟨rfl, by by_cases h : code = 0 <;> simp [h]⟩
    · exact .inl ⟨rfl, rfl⟩
  rw [hf2] at hA ⊢
  have hD := fun (w0 w2 : World) (vw vk vn vg vl : Value) (hT : TxnIn w2 vw vk vn vg vl t) (hL : LeftFree w0 w2 vw vk vn vg vl t) W o hW => left_del hT hL hlw k hk W o hW
  have hkw : wrap64 ((k : Int) + 1) = (k : Int) + 1 := by unfold wrap64; omega
  clear h hi hv hl hlf hf2 her hpl hlw hg
  obtain ⟨ph, st, cm, ws, ks, ns, gs, ls, fl⟩ := t
  simp only at hp hC hI hO hA hcs hne hD hk ⊢
  have hnz : decide (0 < (ls.eraseIdx k).length) = false := decide_eq_false (by rw [hne]; simp)
  obtain ⟨es, hes⟩ : ∃ es, ls.eraseIdx k = es := ⟨_, rfl⟩
  rw [hes] at hnz hA ⊢
  simp only [hes] at hD
  subst hp
  simp only [if_true] at hC
  have HC := Lib.hid hC; have HI := Lib.hid hI; have HO := Lib.hid hO; have HD := Lib.hid hD; have HA := Lib.hid hA
  clear hC hI hO hA hD hes hne
  have hk0 : ¬ (k : Int) < 0 := by omega
  rcases hcs with ⟨rfl, rfl⟩ | ⟨rfl, hd⟩
  · skip
    go_enter Tryz.func28, Tryz.ntmps28
    go_wp2_with (first
      | (go_at_call 62; go_loud (refine (HC.out _ (by repeat (first | exact Fr.refl _ _ | assumption | refine Fr.alloc ?_ _ | refine Fr.drew ?_ | refine Fr.drewN ?_ _ | refine Fr.setCell ?_ (.inr (by simp; try omega)) _)) _ (cell_new1 _ _ _ _ (by simp))).mono ?_); rintro e w1 ⟨rfl, hf1⟩; have hbt := hf1.held w.heap.size (blk0 (blk0 (blkN rfl))); obtain ⟨m0, n0, l0⟩ := box_cells hbt; have hbr := hf1.held (w.heap.size + 1) (blk0 (blkN (by simp))); obtain ⟨m2, n2, l2⟩ := box_cells hbr; have HBR := Lib.hid hbr; have HBT := Lib.hid hbt; clear hbr hbt)
      | (go_at_call 70; go_loud (refine (HI.out _ (Fr.then0 (by repeat (first | exact Fr.refl _ _ | assumption | refine Fr.alloc ?_ _ | refine Fr.drew ?_ | refine Fr.drewN ?_ _ | refine Fr.setCell ?_ (.inr (by simp; try omega)) _)) hf1)).mono ?_); rintro e w2 ⟨rfl, hf2⟩; have hbt := hf2.held w.heap.size HBT.out; obtain ⟨m0', n0', l0'⟩ := box_cells hbt; have hbr := hf2.held (w.heap.size + 1) HBR.out; obtain ⟨m2', n2', l2'⟩ := box_cells hbr; have HBR2 := Lib.hid hbr; have HBT2 := Lib.hid hbt; clear hbr hbt)
      | (go_at_call 65; go_loud (refine (HO.out _ (Fr.then0 (Fr.then0 (by repeat (first | exact Fr.refl _ _ | assumption | refine Fr.alloc ?_ _ | refine Fr.drew ?_ | refine Fr.drewN ?_ _ | refine Fr.setCell ?_ (.inr (by simp; try omega)) _)) hf1) hf2)).mono ?_); rintro e w3 ⟨vw2, vk2, vn2, vg2, vl2, rfl, hT, hLF, hf3⟩; have hbt := hf3.held w.heap.size HBT2.out; obtain ⟨m0'', n0'', l0''⟩ := box_cells hbt; have hbr := hf3.held (w.heap.size + 1) HBR2.out; obtain ⟨m2'', n2'', l2''⟩ := box_cells hbr; have HBR3 := Lib.hid hbr; have HBT3 := Lib.hid hbt; obtain ⟨⟨aw, cw, rfl⟩, ⟨ak, ck, rfl⟩, ⟨an, cn, rfl⟩, ⟨ag, cg, rfl⟩, ⟨al, cl, rfl⟩⟩ := hT.shapes; have HT := Lib.hid hT; have HLF := Lib.hid hLF; clear hbr hbt hT hLF)
      | (go_at_call 71; go_loud (refine (HD.out _ _ _ _ _ _ _ HT.out HLF.out _ _ rfl).mono ?_); rintro e w4 ⟨a4, c4, rfl, hT4, hkeep, hbx, hf4⟩; have hbt := hkeep _ _ (by omega) HBT3.out; obtain ⟨p0, q0, r0⟩ := box_cells hbt; have hbr := hkeep _ _ (by omega) HBR3.out; obtain ⟨p1, q1, r1⟩ := box_cells hbr; obtain ⟨p2, q2, r2⟩ := box_cells hbx; have HBR4 := Lib.hid hbr; have HBX := Lib.hid hbx; have HT4 := Lib.hid hT4; have HF4 := Lib.hid hf4; clear hbr hbt hbx hT4 hf4 hkeep))
    (try simp only [Exit.inBlock, Exit.then])
    have hF := ((((Fr.refl N0 w).alloc _).alloc _).alloc _).then0 hf1 |>.then0 hf2 |>.then0 hf3
    have hF4 := HF4.out w hF (by omega)
    have hX := left_end (f2 := true) HBR4.out HBX.out HT4.out hF4 (by omega) (by omega)
    have hX2 := hX.set (dull_txn _ _ _ _ _ _ _ _ _ _ _ _ _ _ _ _ _ _ _) (by omega) (by omega) 0 (.int .u8 4)
    simp only [List.setIfInBounds_toArray, List.set_cons_zero, List.set_cons_succ] at hX2
    obtain ⟨hz, ht, hTx, hf0⟩ := hX2
    have hT : IsTxn (((w4.setCell ⟨w3.heap.size, 7, none⟩ (.slice a4 es.length c4)).setCell ⟨w3.heap.size, 8, none⟩ (.bool true)).setCell ⟨w3.heap.size, 0, none⟩ (.int .u8 4)) (.agg #[.int .u8 4, .int .u64 st, .int .u64 cm, .slice aw ws.length cw, .slice ak ks.length ck, .slice an ns.length cn, .slice ag gs.length cg, .slice a4 es.length c4, .bool true]) ⟨4, st, cm, ws, ks, ns, gs, es, true⟩ := ⟨_, _, _, _, _, rfl, ⟨hTx.ws, hTx.ks, hTx.ns, hTx.gs, hTx.ls, hTx.n0⟩⟩
    clear hTx hX
    obtain ⟨W0, hW0⟩ : ∃ W, (((w4.setCell ⟨w3.heap.size, 7, none⟩ (.slice a4 es.length c4)).setCell ⟨w3.heap.size, 8, none⟩ (.bool true)).setCell ⟨w3.heap.size, 0, none⟩ (.int .u8 4)) = W := ⟨_, rfl⟩
    rw [hW0] at hz ht hT hf0 ⊢
    obtain ⟨Bx, hBx⟩ : ∃ B, w3.heap.size = B := ⟨_, rfl⟩
    rw [hBx] at ht ⊢
    clear hW0 HC HO HI HD HBR HBT HBR2 HBT2 HBR3 HBT3 HBR4 HBX HT HT4 HLF HF4 hF hF4 m0 n0 l0 m2 n2 l2 m0' n0' l0' m2' n2' l2' m0'' n0'' l0'' m2'' n2'' l2'' p0 q0 r0 p1 q1 r1 p2 q2 r2 hf1 hf2 hf3
    clear hBx
    obtain ⟨m0, n0, l0⟩ := box_cells hz
    obtain ⟨m1, n1, l1⟩ := box_cells ht
    have HZ := Lib.hid hz; have HX := Lib.hid ht; have HT := Lib.hid hT
    clear hz ht hT
    refine Code.wp_mono (Q := Exit.then (Back w (w.heap.size + 1) 6 7 8 #[.int .u8 4, .int .u64 st, .int .u64 cm, .slice aw ws.length cw, .slice ak ks.length ck, .slice an ns.length cn, .slice ag gs.length cg, .slice a4 es.length c4, .bool true] ⟨4, st, cm, ws, ks, ns, gs, es, true⟩ (again ⟨4, st, cm, ws, ks, ns, gs, es, true⟩) 0) (fun _ _ _ => False)) ?_ ?_
    case refine_2 =>
      go_region_with (go_at_call 18; go_loud (refine (HA.out _ _ (HT.out.fr0 (Fr.refl _ _).drew)).mono ?_); rintro e w3 ⟨vo, rfl, ho, hf3⟩; have hz1 := hf3.held (w.heap.size + 1) HZ.out; obtain ⟨p0, q0, k0⟩ := box_cells hz1; have ht1 := hf3.held (Bx) HX.out; obtain ⟨p1, q1, k1⟩ := box_cells ht1)
      all_goals exact ⟨vo, rfl, rfl, rfl, rfl, told_store (by omega) hz1 (dull_txn _ _ _ _ _ _ _ _ _ _ _ _ _ _ _ _ _ _ _) (HT.out.fr0 ((Fr.refl _ _).drew.then0 hf3)) ho (hf0.drew.then0 hf3)⟩
    intro e a' W hM
    cases e
    case' normal => skip
    all_goals (try exact (hM : False).elim)
    obtain ⟨vo, d1, d2, d3, d4, hM⟩ := hM
    clear HZ HX HT m0 n0 m1 n1 l0 l1 HA
    go_wp2
    (try simp only [Exit.inBlock, Exit.then])
    exact bodyPost_ret_by (results_row3 rfl _ _ (w.heap.size + 1) 32 _ (0, 0) _ d2 hM.1 d3 d4 Tryz.underlying32 rfl sizeTxn) d1 hM.step
  · skip
    go_enter Tryz.func28, Tryz.ntmps28
    go_wp2_with (first
      | (go_at_call 62; go_loud (refine (HC.out _ (by repeat (first | exact Fr.refl _ _ | assumption | refine Fr.alloc ?_ _ | refine Fr.drew ?_ | refine Fr.drewN ?_ _ | refine Fr.setCell ?_ (.inr (by simp; try omega)) _)) _ (cell_new1 _ _ _ _ (by simp))).mono ?_); rintro e w1 ⟨rfl, hf1⟩; have hbt := hf1.held w.heap.size (blk0 (blk0 (blkN rfl))); obtain ⟨m0, n0, l0⟩ := box_cells hbt; have hbr := hf1.held (w.heap.size + 1) (blk0 (blkN (by simp))); obtain ⟨m2, n2, l2⟩ := box_cells hbr; have HBR := Lib.hid hbr; have HBT := Lib.hid hbt; clear hbr hbt)
      | (go_at_call 70; go_loud (refine (HI.out _ (Fr.then0 (by repeat (first | exact Fr.refl _ _ | assumption | refine Fr.alloc ?_ _ | refine Fr.drew ?_ | refine Fr.drewN ?_ _ | refine Fr.setCell ?_ (.inr (by simp; try omega)) _)) hf1)).mono ?_); rintro e w2 ⟨rfl, hf2⟩; have hbt := hf2.held w.heap.size HBT.out; obtain ⟨m0', n0', l0'⟩ := box_cells hbt; have hbr := hf2.held (w.heap.size + 1) HBR.out; obtain ⟨m2', n2', l2'⟩ := box_cells hbr; have HBR2 := Lib.hid hbr; have HBT2 := Lib.hid hbt; clear hbr hbt)
      | (go_at_call 65; go_loud (refine (HO.out _ (Fr.then0 (Fr.then0 (by repeat (first | exact Fr.refl _ _ | assumption | refine Fr.alloc ?_ _ | refine Fr.drew ?_ | refine Fr.drewN ?_ _ | refine Fr.setCell ?_ (.inr (by simp; try omega)) _)) hf1) hf2)).mono ?_); rintro e w3 ⟨vw2, vk2, vn2, vg2, vl2, rfl, hT, hLF, hf3⟩; have hbt := hf3.held w.heap.size HBT2.out; obtain ⟨m0'', n0'', l0''⟩ := box_cells hbt; have hbr := hf3.held (w.heap.size + 1) HBR2.out; obtain ⟨m2'', n2'', l2''⟩ := box_cells hbr; have HBR3 := Lib.hid hbr; have HBT3 := Lib.hid hbt; obtain ⟨⟨aw, cw, rfl⟩, ⟨ak, ck, rfl⟩, ⟨an, cn, rfl⟩, ⟨ag, cg, rfl⟩, ⟨al, cl, rfl⟩⟩ := hT.shapes; have HT := Lib.hid hT; have HLF := Lib.hid hLF; clear hbr hbt hT hLF)
      | (go_at_call 71; go_loud (refine (HD.out _ _ _ _ _ _ _ HT.out HLF.out _ _ rfl).mono ?_); rintro e w4 ⟨a4, c4, rfl, hT4, hkeep, hbx, hf4⟩; have hbt := hkeep _ _ (by omega) HBT3.out; obtain ⟨p0, q0, r0⟩ := box_cells hbt; have hbr := hkeep _ _ (by omega) HBR3.out; obtain ⟨p1, q1, r1⟩ := box_cells hbr; obtain ⟨p2, q2, r2⟩ := box_cells hbx; have HBR4 := Lib.hid hbr; have HBX := Lib.hid hbx; have HT4 := Lib.hid hT4; have HF4 := Lib.hid hf4; clear hbr hbt hbx hT4 hf4 hkeep))
    (try simp only [Exit.inBlock, Exit.then])
    have hF := ((((Fr.refl N0 w).alloc _).alloc _).alloc _).then0 hf1 |>.then0 hf2 |>.then0 hf3
    have hF4 := HF4.out w hF (by omega)
    have hX := left_end (f2 := f2) HBR4.out HBX.out HT4.out hF4 (by omega) (by omega)
    have hX2 := hX.set (dull_txn _ _ _ _ _ _ _ _ _ _ _ _ _ _ _ _ _ _ _) (by omega) (by omega) 0 (.int .u8 4)
    simp only [List.setIfInBounds_toArray, List.set_cons_zero, List.set_cons_succ] at hX2
    obtain ⟨hz, ht, hTx, hf0⟩ := hX2
    have hT : IsTxn (((w4.setCell ⟨w3.heap.size, 7, none⟩ (.slice a4 es.length c4)).setCell ⟨w3.heap.size, 8, none⟩ (.bool f2)).setCell ⟨w3.heap.size, 0, none⟩ (.int .u8 4)) (.agg #[.int .u8 4, .int .u64 st, .int .u64 cm, .slice aw ws.length cw, .slice ak ks.length ck, .slice an ns.length cn, .slice ag gs.length cg, .slice a4 es.length c4, .bool f2]) ⟨4, st, cm, ws, ks, ns, gs, es, f2⟩ := ⟨_, _, _, _, _, rfl, ⟨hTx.ws, hTx.ks, hTx.ns, hTx.gs, hTx.ls, hTx.n0⟩⟩
    clear hTx hX
    obtain ⟨W0, hW0⟩ : ∃ W, (((w4.setCell ⟨w3.heap.size, 7, none⟩ (.slice a4 es.length c4)).setCell ⟨w3.heap.size, 8, none⟩ (.bool f2)).setCell ⟨w3.heap.size, 0, none⟩ (.int .u8 4)) = W := ⟨_, rfl⟩
    rw [hW0] at hz ht hT hf0 ⊢
    obtain ⟨Bx, hBx⟩ : ∃ B, w3.heap.size = B := ⟨_, rfl⟩
    rw [hBx] at ht ⊢
    clear hW0 HC HO HI HD HBR HBT HBR2 HBT2 HBR3 HBT3 HBR4 HBX HT HT4 HLF HF4 hF hF4 m0 n0 l0 m2 n2 l2 m0' n0' l0' m2' n2' l2' m0'' n0'' l0'' m2'' n2'' l2'' p0 q0 r0 p1 q1 r1 p2 q2 r2 hf1 hf2 hf3
    clear hBx
    obtain ⟨m0, n0, l0⟩ := box_cells hz
    obtain ⟨m1, n1, l1⟩ := box_cells ht
    have HZ := Lib.hid hz; have HX := Lib.hid ht; have HT := Lib.hid hT
    clear hz ht hT
    refine Code.wp_mono (Q := Exit.then (Back w (w.heap.size + 1) 6 7 8 #[.int .u8 4, .int .u64 st, .int .u64 cm, .slice aw ws.length cw, .slice ak ks.length ck, .slice an ns.length cn, .slice ag gs.length cg, .slice a4 es.length c4, .bool f2] ⟨4, st, cm, ws, ks, ns, gs, es, f2⟩ (again ⟨4, st, cm, ws, ks, ns, gs, es, f2⟩) 0) (fun _ _ _ => False)) ?_ ?_
    case refine_2 =>
      go_region_with (go_at_call 18; go_loud (refine (HA.out _ _ (HT.out.fr0 (Fr.refl _ _).drew)).mono ?_); rintro e w3 ⟨vo, rfl, ho, hf3⟩; have hz1 := hf3.held (w.heap.size + 1) HZ.out; obtain ⟨p0, q0, k0⟩ := box_cells hz1; have ht1 := hf3.held (Bx) HX.out; obtain ⟨p1, q1, k1⟩ := box_cells ht1)
      all_goals exact ⟨vo, rfl, rfl, rfl, rfl, told_store (by omega) hz1 (dull_txn _ _ _ _ _ _ _ _ _ _ _ _ _ _ _ _ _ _ _) (HT.out.fr0 ((Fr.refl _ _).drew.then0 hf3)) ho (hf0.drew.then0 hf3)⟩
    intro e a' W hM
    cases e
    case' normal => skip
    all_goals (try exact (hM : False).elim)
    obtain ⟨vo, d1, d2, d3, d4, hM⟩ := hM
    clear HZ HX HT m0 n0 m1 n1 l0 l1 HA
    go_wp2
    (try simp only [Exit.inBlock, Exit.then])
    exact bodyPost_ret_by (results_row3 rfl _ _ (w.heap.size + 1) 32 _ (0, 0) _ d2 hM.1 d3 d4 Tryz.underlying32 rfl sizeTxn) d1 hM.step

theorem xStaged_any (w : World) (v : Value) (t : Txn) (h : IsTxn w v t) (hv : Inv t) (g code : Int) :
    Calls Tryz.prog 28 #[v, .int .u32 g, .int .i64 code] w fun e w' => StepPost w (sStaged t g code).1 (if (sStaged t g code).2 = 0 ∧ (sStaged t g code).1.phase = 4 then again (sStaged t g code).1 else []) (sStaged t g code).2 e w' := by
  unfold sStaged
  by_cases hp : t.phase = 3
  · by_cases hg : g ∈ t.left
    · by_cases hne : t.left.erase g = []
      · simp only [hp, hg, hne, not_true, ne_eq, if_false, if_true, true_and]
        have := xStaged_last w v t h hv g code hp hg hne
        simp only [hne] at this
        exact this
      · simp only [hp, hg, hne, not_true, ne_eq, if_false, true_and, show ¬ (3 : Int) = 4 by decide]
        have := xStaged_more w v t h hv g code hp hg hne
        simpa using this
    · simp only [hp, hg, not_true, not_false_eq_true, ne_eq, if_false, if_true, show ¬ (5 : Int) = 0 by decide, false_and]
      exact xStaged_no2 w v t h hv g code hp hg
  · simp only [hp, not_false_eq_true, ne_eq, if_true, show ¬ (3 : Int) = 0 by decide, false_and, if_false]
    exact xStaged_no1 w v t h hv g code hp
end Go.Proofs.YthidminepegnoaaGreatDoor
