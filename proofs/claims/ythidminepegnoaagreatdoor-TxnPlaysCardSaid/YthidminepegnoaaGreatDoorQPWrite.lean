/- The document's Write. slices.Grow, slices.Concat at writes. The program's Write. -/
import Derived.Lib.AppendZerosOnto
import Derived.Test.YthidminepegnoaaGreatDoorQRSteps
import Derived.Test.YthidminepegnoaaGreatDoorQLoops
import Derived.Test.YthidminepegnoaaGreatDoorQRClaims
import Derived.Test.YthidminepegnoaaGreatDoorQWrites
import Derived.Test.YthidminepegnoaaGreatDoorQRGroups
import Derived.Test.YthidminepegnoaaGreatDoorQTClaims
namespace Go.Proofs.YthidminepegnoaaGreatDoor
open Go.RowKit Go.Shelf Go.Maps Go.Sort
attribute [local go_sem] Oper.semAt_some
attribute [local irreducible] wpQuiet
set_option linter.unusedVariables false
set_option linter.unusedSimpArgs false

theorem rows_two {w : World} {base : Nat} {v : Value} {xs ys : List Wr} (h : w.ownsRow base 65 8 v (xs.length + ys.length) (xs.flatMap Wr.enc ++ ys.flatMap Wr.enc)) : ∃ a n c b, v = .slice a n c ∧ base ≤ b ∧ Wrs w b (.slice a n c) (xs ++ ys) := by
  rw [← List.flatMap_append, ← List.length_append] at h
  obtain ⟨b, hb, hr⟩ := rowsK_of_row (enc := Wr.enc) (n := 8) (fun _ => rfl) (by decide) h
  obtain ⟨a, o, c, e, -⟩ := id hr
  exact ⟨a, _, c, b, e, hb, e ▸ hr⟩

set_option maxRecDepth 100000 in
set_option maxHeartbeats 2000000 in
theorem rWrite_early (w : World) (v : Value) (t : Txn) (h : IsTxn w v t) (hv : Inv t) (bl bw : Nat) (vl vws : Value) (l : List Sch) (ws : List Wr) (hl : Schs w bl vl l) (hw : Wrs w bw vws ws) (hfew : ws.length ≤ 1000) (hn : t.phase ≠ 2 ∨ 256 < t.writes.length + ws.length) :
    Calls Tryz.prog 37 #[v, vl, vws] w fun e w' => StepPost2 w {} (if t.phase ≠ 2 then 3 else 4) e w' := by
  have hC := fun (W : World) (hf : Fr N0 w W) => rcheck_any W v t (h.fr0 hf) hv 2 2
  have hfw := hv.few
  obtain ⟨vw, vk, vn, vg, vl', rfl, h⟩ := h
  obtain ⟨⟨aw, cw, rfl⟩, ⟨ak, ck, rfl⟩, ⟨an, cn, rfl⟩, ⟨ag, cg, rfl⟩, ⟨al, cl, rfl⟩⟩ := h.shapes
  obtain ⟨aw2, ow2, cw2, rfl, -⟩ := hw
  obtain ⟨al2, ol2, cl2, rfl, -⟩ := hl
  clear h hv
  obtain ⟨ph, st, cm, tws, ks, ns, gs, ls, fl⟩ := t
  simp only [or_self] at hC hn hfw ⊢
  by_cases hp : ph = 2
  · have hlong : (256 : Int) < (tws.length : Int) + (ws.length : Int) := by omega
    have hwr : IntKind.i64.wrap ((tws.length : Int) + (ws.length : Int)) = (tws.length : Int) + (ws.length : Int) := by rw [IntKind.wrap_i64]; omega
    rw [if_neg (by simp [hp])]
    simp only [if_pos hp] at hC
    have HC := Lib.hid hC
    clear hC hp hn hfw hfew
    go_enter Tryz.func37, Tryz.ntmps37
    go_wp2_with (go_at_call 75; go_loud (refine (HC.out _ (by repeat (first | exact Fr.refl _ _ | assumption | refine Fr.alloc ?_ _ | refine Fr.drew ?_ | refine Fr.drewN ?_ _ | refine Fr.setCell ?_ (.inr (by simp; try omega)) _))).mono ?_); rintro e w1 ⟨rfl, hf1⟩; have hbt := hf1.held w.heap.size (blk0 (blkN (by simp))); obtain ⟨m0, n0, l0⟩ := box_cells hbt; have hbr := hf1.held (w.heap.size + 1) (blkN (by simp)); obtain ⟨m1, n1, l1⟩ := box_cells hbr; have HBT := Lib.hid hbt; have HBR := Lib.hid hbr; clear hbt hbr)
    (try simp only [Exit.inBlock, Exit.then])
    have hF := ((Fr.refl N0 w).alloc _ |>.alloc _).then0 hf1
    refine bodyPost_ret_by (results_row2 rfl _ _ (w.heap.size + 1) 32 _ (0, 0) _ rfl (txn_box_set HBR.out) rfl Tryz.underlying32 rfl sizeTxn) rfl ?_
    exact (told_nums (by omega) HBR.out hF).step2
  · rw [if_pos hp]
    simp only [if_neg hp] at hC
    have HC := Lib.hid hC
    clear hC hp hn
    go_enter Tryz.func37, Tryz.ntmps37
    go_wp2_with (go_at_call 75; go_loud (refine (HC.out _ (by repeat (first | exact Fr.refl _ _ | assumption | refine Fr.alloc ?_ _ | refine Fr.drew ?_ | refine Fr.drewN ?_ _ | refine Fr.setCell ?_ (.inr (by simp; try omega)) _))).mono ?_); rintro e w1 ⟨rfl, hf1⟩; have hbt := hf1.held w.heap.size (blk0 (blkN (by simp))); obtain ⟨m0, n0, l0⟩ := box_cells hbt; have hbr := hf1.held (w.heap.size + 1) (blkN (by simp)); obtain ⟨m1, n1, l1⟩ := box_cells hbr; have HBT := Lib.hid hbt; have HBR := Lib.hid hbr; clear hbt hbr)
    (try simp only [Exit.inBlock, Exit.then])
    have hF := ((Fr.refl N0 w).alloc _ |>.alloc _).then0 hf1
    refine bodyPost_ret_by (results_row2 rfl _ _ (w.heap.size + 1) 32 _ (0, 0) _ rfl (txn_box_set HBR.out) rfl Tryz.underlying32 rfl sizeTxn) rfl ?_
    exact (told_nums (by omega) HBR.out hF).step2

set_option maxRecDepth 100000 in
set_option maxHeartbeats 4000000 in
theorem rWrite_late (w : World) (v : Value) (t : Txn) (h : IsTxn w v t) (hv : Inv t) (bl bw : Nat) (vl vws : Value) (l : List Sch) (ws : List Wr) (hl : Schs w bl vl l) (hw : Wrs w bw vws ws) (hok : ∀ x ∈ ws, x.ok) (hfl : l.length ≤ 1000000) (hp : t.phase = 2) (hn : ¬ 256 < t.writes.length + ws.length) :
    Calls Tryz.prog 37 #[v, vl, vws] w fun e w' => StepPost2 w (sWrite t l ws).1 (sWrite t l ws).2 e w' := by
  have hC := fun (W : World) (hf : Fr N0 w W) => rcheck_any W v t (h.fr0 hf) hv 2 2
  have hfw := hv.few
  have hok2 := hv.ok
  have hcl1 := fun (W : World) (hf : Fr N0 w W) => r4Claims_any W bl vl l (hl.fr0 hf) bw vws ws (hw.fr0 hf) hfl (by omega) hok
  have hcl2 := fun (W : World) (hf : Fr N0 w W) b v (hq : Wrs W b v (t.writes ++ ws)) => r4Claims_any W bl vl l (hl.fr0 hf) b v _ hq hfl (by simp; omega) (fun x hx => (List.mem_append.1 hx).elim (hok2 x) (hok x))
  have hs : sWrite t l ws = if claimsErr l ws ≠ 0 then ({}, claimsErr l ws) else if claimsErr l (t.writes ++ ws) ≠ 0 then ({}, claimsErr l (t.writes ++ ws)) else ({ phase := 2, start := t.start, writes := t.writes ++ ws, keys := claimsKeys l (t.writes ++ ws) }, 0) := by
    rw [sWrite, if_neg (by omega), if_neg (by omega)]
  obtain ⟨i0, hi, hz0, hz1, hz2⟩ := info_parts infoWr
  obtain ⟨vw, vk, vn, vg, vl', rfl, h⟩ := h
  obtain ⟨⟨aw, cw, rfl⟩, ⟨ak, ck, rfl⟩, ⟨an, cn, rfl⟩, ⟨ag, cg, rfl⟩, ⟨al, cl, rfl⟩⟩ := h.shapes
  obtain ⟨bt, htw⟩ := h.ws
  have hw' := hw
  obtain ⟨aw2, ow2, cw2, rfl, -⟩ := hw'
  have hl' := hl
  obtain ⟨al2, ol2, cl2, rfl, -⟩ := hl'
  have HTW := Lib.hid htw; have HW := Lib.hid hw
  clear h hv hl hw htw hok2
  obtain ⟨ph, st, cm, tws, ks, ns, gs, ls, fl⟩ := t
  simp only [or_self] at hC hn hfw hcl1 hcl2 hs HTW ⊢
  have hlong : ¬ (256 : Int) < (tws.length : Int) + (ws.length : Int) := by omega
  have hwr : IntKind.i64.wrap ((tws.length : Int) + (ws.length : Int)) = (tws.length : Int) + (ws.length : Int) := by rw [IntKind.wrap_i64]; omega
  simp only [if_pos hp] at hC
  obtain ⟨c1, hc1⟩ : ∃ c, claimsErr l ws = c := ⟨_, rfl⟩
  obtain ⟨c2, hc2⟩ : ∃ c, claimsErr l (tws ++ ws) = c := ⟨_, rfl⟩
  obtain ⟨K2, hK2⟩ : ∃ K, claimsKeys l (tws ++ ws) = K := ⟨_, rfl⟩
  simp only [hc1, hc2, hK2] at hcl1 hcl2 hs
  obtain ⟨S, hS⟩ : ∃ S, sWrite { phase := ph, start := st, commit := cm, writes := tws, keys := ks, needs := ns, groups := gs, left := ls, failed := fl } l ws = S := ⟨_, rfl⟩
  rw [hS] at hs ⊢
  have HC := Lib.hid hC; have HL1 := Lib.hid hcl1; have HL2 := Lib.hid hcl2; have HS := Lib.hid hs
  clear hC hcl1 hcl2 hs hc1 hc2 hK2 hS
  subst hp
  have hnil := World.ownsRow_nil w (w.heap.size + 2) 65 8
  by_cases h1 : c1 = 0
  · by_cases h2 : c2 = 0
    · have hd1 : (c1 != 0) = false := by simpa using h1
      have hd2 : (c2 != 0) = false := by simpa using h2
      have HS2 := Lib.hid (show S = _ by rw [HS.out, if_neg (by simp [h1]), if_neg (by simp [h2])])
      clear HS h1 h2
      go_enter Tryz.func37, Tryz.ntmps37
      go_wp2_with (first
        | (go_at_call 75; go_loud (refine (HC.out _ (by repeat (first | exact Fr.refl _ _ | assumption | refine Fr.alloc ?_ _ | refine Fr.drew ?_ | refine Fr.drewN ?_ _ | refine Fr.setCell ?_ (.inr (by simp; try omega)) _))).mono ?_); rintro e w1 ⟨rfl, hf1⟩; have hbt := hf1.held w.heap.size (blk0 (blkN (by simp))); obtain ⟨m0, n0, l0⟩ := box_cells hbt; have hbr := hf1.held (w.heap.size + 1) (blkN (by simp)); obtain ⟨m1, n1, l1⟩ := box_cells hbr; have hf1w : Fr N0 w w1 := Fr.then0 (by repeat (first | exact Fr.refl _ _ | assumption | refine Fr.alloc ?_ _ | refine Fr.drew ?_ | refine Fr.drewN ?_ _ | refine Fr.setCell ?_ (.inr (by simp; try omega)) _)) hf1; have HBT := Lib.hid hbt; have HBR := Lib.hid hbr; clear hbt hbr)
        | (at_builtin; have hq := hr1; go_loud (refine wpList_append_rows rfl _ _ 27 rfl (w.heap.size + 2) 65 i0 zeroWrV 8 72 Tryz.underlying27 hi hz0 hz1 hz2 rfl (by decide) v1 tws.length _ rfl hr1.out (enc := Wr.enc) (fun _ => rfl) wr_one bw _ ws rfl (HW.out.fr0 hF2.out) (by unfold maxLen; omega) (by omega) (by omega) ?_); intro v2 w3 hown2 hgrow2; have hF3 := Lib.hid (hF2.out.grown hgrow2 fun q e => .inr (by have := (hr1.out.lt q e).1; omega)); have hF13 := (hF12.out.grown hgrow2 fun q e => .inl (hr1.out.lt q e).1); have hbt := (hF13.at (k := w.heap.size) (by show ¬ w.heap.size + 2 ≤ w.heap.size; omega) l0).trans HBT.out; have hbr := (hF13.at (k := w.heap.size + 1) (by show ¬ w.heap.size + 2 ≤ w.heap.size + 1; omega) l1).trans HBR.out; have HBT3 := Lib.hid hbt; have HBR3 := Lib.hid hbr; obtain ⟨a2, n2, k2, bb, rfl, hbb, hrows⟩ := rows_two hown2; have hR := Lib.hid hrows; clear hown2 hrows hbt hbr hF13)
        | (at_builtin; go_loud (refine wpList_append_rows rfl _ _ 27 rfl (w.heap.size + 2) 65 i0 zeroWrV 8 72 Tryz.underlying27 hi hz0 hz1 hz2 rfl (by decide) (.slice none 0 0) 0 [] rfl (World.ownsRow_nil _ _ _ _) (enc := Wr.enc) (fun _ => rfl) wr_one bt _ tws rfl (HTW.out.fr0 hf1w) (by unfold maxLen; omega) (by omega) (by omega) ?_); intro v1 w2 hown1 hgrow1; have hs2 := hgrow1.size; have hr1' : w2.ownsRow (w.heap.size + 2) 65 8 v1 tws.length (tws.flatMap Wr.enc) := (by simpa using hown1); have hr1 := Lib.hid hr1'; have hF2 := Lib.hid (hf1w.grown hgrow1 fun q e => by simp [Value.ownBlock] at e); have hF12 := Lib.hid ((Fr.refl (fun k => w.heap.size + 2 ≤ k) w1).grown hgrow1 fun q e => by simp [Value.ownBlock] at e); clear hown1 hr1')
        | (go_at_call 76; have hq := hf4; go_loud (refine (HL2.out _ (hF3.out.then0 hf4) _ _ (hR.out.fr0 hf4)).mono ?_); rintro e w5 ⟨v5, at5, b5, rfl, hk5, hb5, hf5⟩; obtain ⟨ak5, ck5, rfl⟩ := strs_form hk5; have hbt := hf5.held w.heap.size HBT4.out; obtain ⟨m0'', n0'', l0''⟩ := box_cells hbt; have hbr := hf5.held (w.heap.size + 1) HBR4.out; obtain ⟨m1'', n1'', l1''⟩ := box_cells hbr; have HBR5 := Lib.hid hbr; clear hbt hbr)
        | (go_at_call 76; go_loud (refine (HL1.out _ hF3.out).mono ?_); rintro e w4 ⟨v4, at4, b4, rfl, hk4, hb4, hf4⟩; have hbt := hf4.held w.heap.size HBT3.out; obtain ⟨m0', n0', l0'⟩ := box_cells hbt; have hbr := hf4.held (w.heap.size + 1) HBR3.out; obtain ⟨m1', n1', l1'⟩ := box_cells hbr; have HBT4 := Lib.hid hbt; have HBR4 := Lib.hid hbr; clear hbt hbr))
      (try simp only [Exit.inBlock, Exit.then])
      obtain rfl := HS2.out
      have hF5 := hF3.out.then0 hf4 |>.then0 hf5
      refine bodyPost_ret_by (results_row2 rfl _ _ (w.heap.size + 1) 32 _ (0, 0) _ rfl (txn_box_set HBR5.out) rfl Tryz.underlying32 rfl sizeTxn) rfl ?_
      exact (told_store (t := { phase := 2, start := st, writes := tws ++ ws, keys := K2 }) (by omega) HBR5.out (dull_txn _ _ _ _ _ _ _ _ _ _ _ _ _ _ _ _ _ _ _) ⟨_, _, _, _, _, rfl, ⟨⟨bb, (hR.out.fr0 hf4).fr0 hf5⟩, ⟨b5, hk5⟩, ⟨0, RowsK.nil _ _ _ _⟩, ⟨0, Ints.nil _ _ _⟩, ⟨0, Ints.nil _ _ _⟩, fun _ => rfl⟩⟩ (outs_nil _) hF5).step2
    · have hd1 : (c1 != 0) = false := by simpa using h1
      have hd2 : (c2 != 0) = true := by simpa using h2
      have HS2 := Lib.hid (show S = _ by rw [HS.out, if_neg (by simp [h1]), if_pos h2])
      clear HS h1 h2
      go_enter Tryz.func37, Tryz.ntmps37
      go_wp2_with (first
        | (go_at_call 75; go_loud (refine (HC.out _ (by repeat (first | exact Fr.refl _ _ | assumption | refine Fr.alloc ?_ _ | refine Fr.drew ?_ | refine Fr.drewN ?_ _ | refine Fr.setCell ?_ (.inr (by simp; try omega)) _))).mono ?_); rintro e w1 ⟨rfl, hf1⟩; have hbt := hf1.held w.heap.size (blk0 (blkN (by simp))); obtain ⟨m0, n0, l0⟩ := box_cells hbt; have hbr := hf1.held (w.heap.size + 1) (blkN (by simp)); obtain ⟨m1, n1, l1⟩ := box_cells hbr; have hf1w : Fr N0 w w1 := Fr.then0 (by repeat (first | exact Fr.refl _ _ | assumption | refine Fr.alloc ?_ _ | refine Fr.drew ?_ | refine Fr.drewN ?_ _ | refine Fr.setCell ?_ (.inr (by simp; try omega)) _)) hf1; have HBT := Lib.hid hbt; have HBR := Lib.hid hbr; clear hbt hbr)
        | (at_builtin; have hq := hr1; go_loud (refine wpList_append_rows rfl _ _ 27 rfl (w.heap.size + 2) 65 i0 zeroWrV 8 72 Tryz.underlying27 hi hz0 hz1 hz2 rfl (by decide) v1 tws.length _ rfl hr1.out (enc := Wr.enc) (fun _ => rfl) wr_one bw _ ws rfl (HW.out.fr0 hF2.out) (by unfold maxLen; omega) (by omega) (by omega) ?_); intro v2 w3 hown2 hgrow2; have hF3 := Lib.hid (hF2.out.grown hgrow2 fun q e => .inr (by have := (hr1.out.lt q e).1; omega)); have hF13 := (hF12.out.grown hgrow2 fun q e => .inl (hr1.out.lt q e).1); have hbt := (hF13.at (k := w.heap.size) (by show ¬ w.heap.size + 2 ≤ w.heap.size; omega) l0).trans HBT.out; have hbr := (hF13.at (k := w.heap.size + 1) (by show ¬ w.heap.size + 2 ≤ w.heap.size + 1; omega) l1).trans HBR.out; have HBT3 := Lib.hid hbt; have HBR3 := Lib.hid hbr; obtain ⟨a2, n2, k2, bb, rfl, hbb, hrows⟩ := rows_two hown2; have hR := Lib.hid hrows; clear hown2 hrows hbt hbr hF13)
        | (at_builtin; go_loud (refine wpList_append_rows rfl _ _ 27 rfl (w.heap.size + 2) 65 i0 zeroWrV 8 72 Tryz.underlying27 hi hz0 hz1 hz2 rfl (by decide) (.slice none 0 0) 0 [] rfl (World.ownsRow_nil _ _ _ _) (enc := Wr.enc) (fun _ => rfl) wr_one bt _ tws rfl (HTW.out.fr0 hf1w) (by unfold maxLen; omega) (by omega) (by omega) ?_); intro v1 w2 hown1 hgrow1; have hs2 := hgrow1.size; have hr1' : w2.ownsRow (w.heap.size + 2) 65 8 v1 tws.length (tws.flatMap Wr.enc) := (by simpa using hown1); have hr1 := Lib.hid hr1'; have hF2 := Lib.hid (hf1w.grown hgrow1 fun q e => by simp [Value.ownBlock] at e); have hF12 := Lib.hid ((Fr.refl (fun k => w.heap.size + 2 ≤ k) w1).grown hgrow1 fun q e => by simp [Value.ownBlock] at e); clear hown1 hr1')
        | (go_at_call 76; have hq := hf4; go_loud (refine (HL2.out _ (hF3.out.then0 hf4) _ _ (hR.out.fr0 hf4)).mono ?_); rintro e w5 ⟨v5, at5, b5, rfl, hk5, hb5, hf5⟩; obtain ⟨ak5, ck5, rfl⟩ := strs_form hk5; have hbt := hf5.held w.heap.size HBT4.out; obtain ⟨m0'', n0'', l0''⟩ := box_cells hbt; have hbr := hf5.held (w.heap.size + 1) HBR4.out; obtain ⟨m1'', n1'', l1''⟩ := box_cells hbr; have HBR5 := Lib.hid hbr; clear hbt hbr)
        | (go_at_call 76; go_loud (refine (HL1.out _ hF3.out).mono ?_); rintro e w4 ⟨v4, at4, b4, rfl, hk4, hb4, hf4⟩; have hbt := hf4.held w.heap.size HBT3.out; obtain ⟨m0', n0', l0'⟩ := box_cells hbt; have hbr := hf4.held (w.heap.size + 1) HBR3.out; obtain ⟨m1', n1', l1'⟩ := box_cells hbr; have HBT4 := Lib.hid hbt; have HBR4 := Lib.hid hbr; clear hbt hbr))
      (try simp only [Exit.inBlock, Exit.then])
      obtain rfl := HS2.out
      refine bodyPost_ret_by (results_row2 rfl _ _ (w.heap.size + 1) 32 _ (0, 0) _ rfl (txn_box_set HBR5.out) rfl Tryz.underlying32 rfl sizeTxn) rfl ?_
      exact (told_nums (by omega) HBR5.out (hF3.out.then0 hf4 |>.then0 hf5)).step2
  · skip
    · have hd1 : (c1 != 0) = true := by simpa using h1
      have HS2 := Lib.hid (show S = _ by rw [HS.out, if_pos h1])
      clear HS h1
      go_enter Tryz.func37, Tryz.ntmps37
      go_wp2_with (first
        | (go_at_call 75; go_loud (refine (HC.out _ (by repeat (first | exact Fr.refl _ _ | assumption | refine Fr.alloc ?_ _ | refine Fr.drew ?_ | refine Fr.drewN ?_ _ | refine Fr.setCell ?_ (.inr (by simp; try omega)) _))).mono ?_); rintro e w1 ⟨rfl, hf1⟩; have hbt := hf1.held w.heap.size (blk0 (blkN (by simp))); obtain ⟨m0, n0, l0⟩ := box_cells hbt; have hbr := hf1.held (w.heap.size + 1) (blkN (by simp)); obtain ⟨m1, n1, l1⟩ := box_cells hbr; have hf1w : Fr N0 w w1 := Fr.then0 (by repeat (first | exact Fr.refl _ _ | assumption | refine Fr.alloc ?_ _ | refine Fr.drew ?_ | refine Fr.drewN ?_ _ | refine Fr.setCell ?_ (.inr (by simp; try omega)) _)) hf1; have HBT := Lib.hid hbt; have HBR := Lib.hid hbr; clear hbt hbr)
        | (at_builtin; have hq := hr1; go_loud (refine wpList_append_rows rfl _ _ 27 rfl (w.heap.size + 2) 65 i0 zeroWrV 8 72 Tryz.underlying27 hi hz0 hz1 hz2 rfl (by decide) v1 tws.length _ rfl hr1.out (enc := Wr.enc) (fun _ => rfl) wr_one bw _ ws rfl (HW.out.fr0 hF2.out) (by unfold maxLen; omega) (by omega) (by omega) ?_); intro v2 w3 hown2 hgrow2; have hF3 := Lib.hid (hF2.out.grown hgrow2 fun q e => .inr (by have := (hr1.out.lt q e).1; omega)); have hF13 := (hF12.out.grown hgrow2 fun q e => .inl (hr1.out.lt q e).1); have hbt := (hF13.at (k := w.heap.size) (by show ¬ w.heap.size + 2 ≤ w.heap.size; omega) l0).trans HBT.out; have hbr := (hF13.at (k := w.heap.size + 1) (by show ¬ w.heap.size + 2 ≤ w.heap.size + 1; omega) l1).trans HBR.out; have HBT3 := Lib.hid hbt; have HBR3 := Lib.hid hbr; obtain ⟨a2, n2, k2, bb, rfl, hbb, hrows⟩ := rows_two hown2; have hR := Lib.hid hrows; clear hown2 hrows hbt hbr hF13)
        | (at_builtin; go_loud (refine wpList_append_rows rfl _ _ 27 rfl (w.heap.size + 2) 65 i0 zeroWrV 8 72 Tryz.underlying27 hi hz0 hz1 hz2 rfl (by decide) (.slice none 0 0) 0 [] rfl (World.ownsRow_nil _ _ _ _) (enc := Wr.enc) (fun _ => rfl) wr_one bt _ tws rfl (HTW.out.fr0 hf1w) (by unfold maxLen; omega) (by omega) (by omega) ?_); intro v1 w2 hown1 hgrow1; have hs2 := hgrow1.size; have hr1' : w2.ownsRow (w.heap.size + 2) 65 8 v1 tws.length (tws.flatMap Wr.enc) := (by simpa using hown1); have hr1 := Lib.hid hr1'; have hF2 := Lib.hid (hf1w.grown hgrow1 fun q e => by simp [Value.ownBlock] at e); have hF12 := Lib.hid ((Fr.refl (fun k => w.heap.size + 2 ≤ k) w1).grown hgrow1 fun q e => by simp [Value.ownBlock] at e); clear hown1 hr1')
        | (go_at_call 76; have hq := hf4; go_loud (refine (HL2.out _ (hF3.out.then0 hf4) _ _ (hR.out.fr0 hf4)).mono ?_); rintro e w5 ⟨v5, at5, b5, rfl, hk5, hb5, hf5⟩; obtain ⟨ak5, ck5, rfl⟩ := strs_form hk5; have hbt := hf5.held w.heap.size HBT4.out; obtain ⟨m0'', n0'', l0''⟩ := box_cells hbt; have hbr := hf5.held (w.heap.size + 1) HBR4.out; obtain ⟨m1'', n1'', l1''⟩ := box_cells hbr; have HBR5 := Lib.hid hbr; clear hbt hbr)
        | (go_at_call 76; go_loud (refine (HL1.out _ hF3.out).mono ?_); rintro e w4 ⟨v4, at4, b4, rfl, hk4, hb4, hf4⟩; have hbt := hf4.held w.heap.size HBT3.out; obtain ⟨m0', n0', l0'⟩ := box_cells hbt; have hbr := hf4.held (w.heap.size + 1) HBR3.out; obtain ⟨m1', n1', l1'⟩ := box_cells hbr; have HBT4 := Lib.hid hbt; have HBR4 := Lib.hid hbr; clear hbt hbr))
      (try simp only [Exit.inBlock, Exit.then])
      obtain rfl := HS2.out
      refine bodyPost_ret_by (results_row2 rfl _ _ (w.heap.size + 1) 32 _ (0, 0) _ rfl (txn_box_set HBR4.out) rfl Tryz.underlying32 rfl sizeTxn) rfl ?_
      exact (told_nums (by omega) HBR4.out (hF3.out.then0 hf4)).step2

theorem rWrite_any (w : World) (v : Value) (t : Txn) (h : IsTxn w v t) (hv : Inv t) (bl bw : Nat) (vl vws : Value) (l : List Sch) (ws : List Wr) (hl : Schs w bl vl l) (hw : Wrs w bw vws ws) (hok : ∀ x ∈ ws, x.ok) (hfl : l.length ≤ 1000) (hfw : ws.length ≤ 1000) :
    Calls Tryz.prog 37 #[v, vl, vws] w fun e w' => StepPost2 w (sWrite t l ws).1 (sWrite t l ws).2 e w' := by
  by_cases hn : t.phase ≠ 2 ∨ 256 < t.writes.length + ws.length
  · have := rWrite_early w v t h hv bl bw vl vws l ws hl hw hfw hn
    have e : sWrite t l ws = ({}, if t.phase ≠ 2 then 3 else 4) := by
      unfold sWrite
      by_cases hp : t.phase = 2
      · rw [if_neg (by simp [hp]), if_pos (hn.resolve_left (fun h => h hp)), if_neg (by simp [hp])]
      · rw [if_pos hp, if_pos hp]
    rw [e]; exact this
  · have hp : t.phase = 2 := by
      by_cases hp : t.phase = 2
      · exact hp
      · exact absurd (.inl hp) hn
    exact rWrite_late w v t h hv bl bw vl vws l ws hl hw hok (by omega) hp (fun h => hn (.inr h))
end Go.Proofs.YthidminepegnoaaGreatDoor
namespace Go.Proofs.YthidminepegnoaaGreatDoor
open Go.RowKit Go.Shelf Go.Maps Go.Sort
attribute [local go_sem] Oper.semAt_some
attribute [local irreducible] wpQuiet
set_option linter.unusedVariables false
set_option linter.unusedSimpArgs false

set_option maxRecDepth 100000 in
set_option maxHeartbeats 2000000 in
theorem growW_any (w : World) (n : Nat) (hn : n ≤ 100000) :
    Calls Tryz.prog 98 #[.slice none 0 0, .int .i64 n] w fun e w' => ∃ v, e = .returned v ∧ w'.ownsRow w.heap.size 65 8 v 0 [] ∧ Fr N0 w w' := by
  have h1 : ¬ ((n : Int) < 0) := by omega
  have h2 : wrap64 (((0 : Nat) : Int) - ((0 : Nat) : Int)) = 0 := by unfold wrap64; omega
  have h3 : wrap64 ((n : Int) - 0) = (n : Int) := by unfold wrap64; omega
  rcases Nat.eq_zero_or_pos n with h0 | h0
  · subst h0
    go_enter Tryz.func98, Tryz.ntmps98
    go_wp2
    go_ret
    exact ⟨_, rfl, World.ownsRow_nil _ _ _ _, Fr.refl _ _⟩
  · have h4 : (0 : Int) < (n : Int) := by omega
    obtain ⟨i0, hi, hz0, hz1, hz2⟩ := info_parts infoWr
    have hold : (Builtin.firstCells i0.size 0 (.slice none 0 0)).run Tryz.prog w.drew = .ok (#[] : Array Value) w.drew := run_firstCells_none w.drew i0.size 0 0 0
    have hrz : ∀ ty, (Builtin.append_ #[27, 3] ty #[.slice none 0 0, .int .i64 (n : Int)]).run Tryz.prog w = .ok (.slice (some ⟨w.heap.size, 0, none⟩) n (grownCap w n 0 65)) (w.drew.alloc (.cells (#[] ++ Builtin.zeroCells zeroWrV.cells n ++ Builtin.zeroCells zeroWrV.cells (grownCap w n 0 65 - n)) 65)) := fun ty => by
      have h := Lib.run_append_grow_zeros w 27 3 ty 65 i0 zeroWrV .i64 .i64 Tryz.underlying27 Tryz.underlying3 hi hz0 none 0 0 [] hold n h0 (by omega) (by omega) (by omega) (by rw [hz2]; omega) (by
        rw [Nat.zero_add]
        exact growslice_fits h0 (by rw [hz2]; omega))
      simp only [Nat.zero_add] at h
      exact h
    have hGn : n ≤ grownCap w n 0 65 := grownCap_ge w _ _ _
    have hGm := grownCap_le_maxLen w n 0 65 (by unfold maxLen; omega)
    obtain ⟨G, hG⟩ : ∃ G, G = grownCap w n 0 65 := ⟨_, rfl⟩
    rw [← hG] at hrz hGn hGm
    have hG63 : G ≤ 9223372036854775807 := by unfold maxLen at hGm; omega
    clear hold hG
    go_enter Tryz.func98, Tryz.ntmps98
    go_wp2_with (at_builtin; refine Lib.wpList_append_run _ rfl _ _ _ _ rfl _ _ rfl rfl _ _ (hrz _) ?_)
    go_ret
    refine ⟨_, rfl, ⟨by simp, .inr ⟨w.heap.size, G, _, rfl, Nat.le_refl _, World.alloc_heap_new _ _, Nat.zero_le _, hGm, ?_, by simp⟩⟩, (Fr.refl _ _).drew.alloc _⟩
    simp [Builtin.zeroCells, zeroWrV]
    omega

set_option maxRecDepth 100000 in
set_option maxHeartbeats 4000000 in
/-- Concat of two lists. -/
theorem concatW_any (w : World) (B b1 b2 : Nat) (v1 v2 : Value) (xs ys : List Wr) (h1 : Wrs w b1 v1 xs) (h2 : Wrs w b2 v2 ys) (hx : xs.length ≤ 1000) (hy : ys.length ≤ 1000) (c0 : w.cell? ⟨B, 0, none⟩ = some v1) (c1 : w.cell? ⟨B, 1, none⟩ = some v2) :
    Calls Tryz.prog 64 #[.slice (some ⟨B, 0, none⟩) 2 2] w fun e w' => ∃ v b, e = .returned v ∧ w.heap.size ≤ b ∧ Wrs w' b v (xs ++ ys) ∧ Fr N0 w w' := by
  obtain ⟨i0, hi, hz0, hz1, hz2⟩ := info_parts infoWr
  obtain ⟨a1, o1, k1, rfl, -⟩ := id h1
  obtain ⟨a2, o2, k2, rfl, -⟩ := id h2
  have H1 := Lib.hid h1; have H2 := Lib.hid h2
  have hG := fun W => growW_any W (xs.length + ys.length) (by omega)
  have hsum : IntKind.i64.wrap ((xs.length : Int) + (ys.length : Int)) = ((xs.length + ys.length : Nat) : Int) := by rw [IntKind.wrap_i64]; omega
  have HG := Lib.hid hG
  clear h1 h2 hG
  go_enter Tryz.func64, Tryz.ntmps64
  go_wp2
  have s1 : IntKind.i64.wrap ((0 : Int) + (xs.length : Int)) = (xs.length : Int) := by rw [IntKind.wrap_i64]; omega
  go_loopw [3, 11] (fun sv iv wr => ((iv = .int .i64 0 ∧ sv = .int .i64 0) ∨ (iv = .int .i64 1 ∧ sv = .int .i64 xs.length) ∨ (iv = .int .i64 2 ∧ sv = .int .i64 (xs.length + ys.length : Nat))) ∧ Fr N0 w wr) (fun _ iv _ => 2 - (intOf iv).toNat)
  case atStart => exact ⟨.inl ⟨rfl, rfl⟩, Fr.refl _ _⟩
  case round =>
    obtain ⟨hcs, hfr⟩ := hrel
    have d0 := hfr.cell id c0; have d1 := hfr.cell id c1
    have hn1 : ¬ (xs.length : Int) < 0 := by omega
    have hn2 : ¬ ((xs.length + ys.length : Nat) : Int) < 0 := by omega
    rcases hcs with ⟨rfl, rfl⟩ | ⟨rfl, rfl⟩ | ⟨rfl, rfl⟩
    · go_wp2
      go_roundw
      case rel => exact ⟨.inr (.inl ⟨rfl, by go_num⟩), hfr⟩
      case measure => simp [intOf]
    · go_wp2
      go_roundw
      case rel => exact ⟨.inr (.inr ⟨rfl, by go_num⟩), hfr⟩
      case measure => simp [intOf]
    · have HF := Lib.hid hfr
      clear hfr
      go_wp2_with (go_at_call 98; go_loud (refine (HG.out _).mono ?_); rintro e w1 ⟨vg, rfl, hr, hf1⟩)
      obtain ⟨wA, rfl⟩ : ∃ wA, wA = wr := ⟨_, rfl⟩
      have HR := Lib.hid hr; have HF1 := Lib.hid (HF.out.then0 hf1)
      have hsz := hf1.size
      have hf1' := Lib.hid hf1
      clear hr hf1
      go_loopw [6, 27] (fun ov iv wq => ((iv = .int .i64 0 ∧ wq.ownsRow wA.heap.size 65 8 ov 0 []) ∨ (iv = .int .i64 1 ∧ wq.ownsRow wA.heap.size 65 8 ov xs.length (xs.flatMap Wr.enc)) ∨ (iv = .int .i64 2 ∧ wq.ownsRow wA.heap.size 65 8 ov (xs.length + ys.length) ((xs ++ ys).flatMap Wr.enc))) ∧ Fr N0 wA wq) (fun _ iv _ => 2 - (intOf iv).toNat)
      case atStart => exact ⟨.inl ⟨rfl, HR.out⟩, hf1'.out⟩
      case round =>
        obtain ⟨hcs, hfr⟩ := hrel
        have hzz := hfr.size
        have hF := HF.out.then0 hfr
        have e0 := hF.cell id c0; have e1 := hF.cell id c1
        have q1 := H1.out.fr0 hF; have q2 := H2.out.fr0 hF
        have Q1 := Lib.hid q1; have Q2 := Lib.hid q2; have HQ := Lib.hid hfr; have HFF := Lib.hid hF
        clear q1 q2 hfr hF
        rcases hcs with ⟨rfl, hr⟩ | ⟨rfl, hr⟩ | ⟨rfl, hr⟩
        · have HRR := Lib.hid hr
          have hlt := fun q e => (hr.lt q e).1
          have HLT := Lib.hid hlt
          clear hr hlt
          go_wp2_with (at_builtin; go_loud (refine wpList_append_rows rfl _ _ 27 rfl wA.heap.size 65 i0 zeroWrV 8 72 Tryz.underlying27 hi hz0 hz1 hz2 rfl (by decide) u6 0 [] rfl HRR.out (enc := Wr.enc) (fun _ => rfl) wr_one b1 _ xs rfl Q1.out (by unfold maxLen; omega) (by omega) hzz ?_); intro v2 w2 hown hgrow)
          go_roundw
          case rel => exact ⟨.inr (.inl ⟨rfl, by simpa using hown⟩), HQ.out.grown hgrow fun q e => .inr (HLT.out q e)⟩
          case measure => simp [intOf]
        · have HRR := Lib.hid hr
          have hlt := fun q e => (hr.lt q e).1
          have HLT := Lib.hid hlt
          clear hr hlt
          go_wp2_with (at_builtin; go_loud (refine wpList_append_rows rfl _ _ 27 rfl wA.heap.size 65 i0 zeroWrV 8 72 Tryz.underlying27 hi hz0 hz1 hz2 rfl (by decide) u6 xs.length _ rfl HRR.out (enc := Wr.enc) (fun _ => rfl) wr_one b2 _ ys rfl Q2.out (by unfold maxLen; omega) (by omega) hzz ?_); intro v2 w2 hown hgrow)
          go_roundw
          case rel => exact ⟨.inr (.inr ⟨rfl, by rw [List.flatMap_append]; exact hown⟩), HQ.out.grown hgrow fun q e => .inr (HLT.out q e)⟩
          case measure => simp [intOf]
        · rw [← List.length_append] at hr
          obtain ⟨bb, hbb, hrows⟩ := rowsK_of_row (enc := Wr.enc) (n := 8) (fun _ => rfl) (by decide) hr
          have HB := Lib.hid hrows
          clear hr hrows
          go_wp2
          go_ret
          exact ⟨_, bb, rfl, by have := HF.out.size; omega, HB.out, HFF.out⟩

end Go.Proofs.YthidminepegnoaaGreatDoor
namespace Go.Proofs.YthidminepegnoaaGreatDoor
open Go.RowKit Go.Shelf Go.Maps Go.Sort
attribute [local go_sem] Oper.semAt_some
attribute [local irreducible] wpQuiet
set_option linter.unusedVariables false
set_option linter.unusedSimpArgs false

theorem may_small {x : Wr} (h : trMay x = 0) : x.pred.size ≤ maxLen := by
  unfold trMay at h
  split at h
  · simp at h
  · split at h
    · simp at h
    · rename_i h1 h2
      have h3 : predOk x.pred = true := by simpa using h2
      have h4 : predOkP x.pred := by
        by_cases hp : predOkP x.pred
        · exact hp
        · rw [predOk_false hp] at h3; simp at h3
      have := h4.choose_spec.1
      unfold maxLen; omega

set_option maxRecDepth 100000 in
set_option maxHeartbeats 2000000 in
theorem xWrite_early (w : World) (v : Value) (t : Txn) (h : IsTxn w v t) (hv : Inv t) (bl bw : Nat) (vl vws : Value) (l : List Sch) (ws : List Wr) (hl : Schs w bl vl l) (hw : Wrs w bw vws ws) (hfew : ws.length ≤ 1000) (hn : t.phase ≠ 2 ∨ 256 < t.writes.length + ws.length) :
    Calls Tryz.prog 24 #[v, vl, vws] w fun e w' => StepPost2 w {} (if t.phase ≠ 2 then 3 else 4) e w' := by
  have hC := fun (W : World) (hf : Fr N0 w W) B hB => xcheck1 W v t (h.fr0 hf) hv B 2 (by decide) hB
  have hfw := hv.few
  obtain ⟨vw, vk, vn, vg, vl', rfl, h⟩ := h
  obtain ⟨⟨aw, cw, rfl⟩, ⟨ak, ck, rfl⟩, ⟨an, cn, rfl⟩, ⟨ag, cg, rfl⟩, ⟨al, cl, rfl⟩⟩ := h.shapes
  obtain ⟨aw2, ow2, cw2, rfl, -⟩ := hw
  obtain ⟨al2, ol2, cl2, rfl, -⟩ := hl
  clear h hv
  obtain ⟨ph, st, cm, tws, ks, ns, gs, ls, fl⟩ := t
  simp only at hC hn hfw ⊢
  by_cases hp : ph = 2
  · have hlong : (256 : Int) < (tws.length : Int) + (ws.length : Int) := by omega
    have hwr : IntKind.i64.wrap ((tws.length : Int) + (ws.length : Int)) = (tws.length : Int) + (ws.length : Int) := by rw [IntKind.wrap_i64]; omega
    rw [if_neg (by simp [hp])]
    simp only [if_pos hp] at hC
    have HC := Lib.hid hC
    clear hC hp hn hfw hfew
    go_enter Tryz.func24, Tryz.ntmps24
    go_wp2_with (go_at_call 62; go_loud (refine (HC.out _ (by repeat (first | exact Fr.refl _ _ | assumption | refine Fr.alloc ?_ _ | refine Fr.drew ?_ | refine Fr.drewN ?_ _ | refine Fr.setCell ?_ (.inr (by simp; try omega)) _)) _ (cell_new1 _ _ _ _ (by simp))).mono ?_); rintro e w1 ⟨rfl, hf1⟩; have hbt := hf1.held w.heap.size (blk0 (blk0 (blkN rfl))); obtain ⟨m0, n0, l0⟩ := box_cells hbt; have hbr := hf1.held (w.heap.size + 1) (blk0 (blkN (by simp))); obtain ⟨m2, n2, l2⟩ := box_cells hbr; have HBR := Lib.hid hbr; have HBT := Lib.hid hbt; clear hbr hbt)
    (try simp only [Exit.inBlock, Exit.then])
    have hF := ((((Fr.refl N0 w).alloc _).alloc _).alloc _).then0 hf1
    refine bodyPost_ret_by (results_row2 rfl _ _ (w.heap.size + 1) 32 _ (0, 0) _ rfl (txn_box_set HBR.out) rfl Tryz.underlying32 rfl sizeTxn) rfl ?_
    exact (told_nums (by omega) HBR.out hF).step2
  · rw [if_pos hp]
    simp only [if_neg hp] at hC
    have HC := Lib.hid hC
    clear hC hp hn
    go_enter Tryz.func24, Tryz.ntmps24
    go_wp2_with (go_at_call 62; go_loud (refine (HC.out _ (by repeat (first | exact Fr.refl _ _ | assumption | refine Fr.alloc ?_ _ | refine Fr.drew ?_ | refine Fr.drewN ?_ _ | refine Fr.setCell ?_ (.inr (by simp; try omega)) _)) _ (cell_new1 _ _ _ _ (by simp))).mono ?_); rintro e w1 ⟨rfl, hf1⟩; have hbt := hf1.held w.heap.size (blk0 (blk0 (blkN rfl))); obtain ⟨m0, n0, l0⟩ := box_cells hbt; have hbr := hf1.held (w.heap.size + 1) (blk0 (blkN (by simp))); obtain ⟨m2, n2, l2⟩ := box_cells hbr; have HBR := Lib.hid hbr; have HBT := Lib.hid hbt; clear hbr hbt)
    (try simp only [Exit.inBlock, Exit.then])
    have hF := ((((Fr.refl N0 w).alloc _).alloc _).alloc _).then0 hf1
    refine bodyPost_ret_by (results_row2 rfl _ _ (w.heap.size + 1) 32 _ (0, 0) _ rfl (txn_box_set HBR.out) rfl Tryz.underlying32 rfl sizeTxn) rfl ?_
    exact (told_nums (by omega) HBR.out hF).step2

/-- Concat's answer with a length of its own. -/
theorem rows_len {w : World} {b : Nat} {v : Value} {xs : List Wr} (h : Wrs w b v xs) : ∃ a n c, v = .slice a n c ∧ Wrs w b (.slice a n c) xs := by
  obtain ⟨a, o, c, e, -⟩ := id h
  exact ⟨a, _, c, e, e ▸ h⟩

set_option maxRecDepth 100000 in
set_option maxHeartbeats 4000000 in
theorem xWrite_late (w : World) (v : Value) (t : Txn) (h : IsTxn w v t) (hv : Inv t) (bl bw : Nat) (vl vws : Value) (l : List Sch) (ws : List Wr) (hl : Schs w bl vl l) (hw : Wrs w bw vws ws) (hok : ∀ x ∈ ws, x.ok) (hpm : ∀ x ∈ ws, x.pred.size ≤ maxLen) (hM : MaxAt w) (hfl : l.length ≤ 1000000) (hp : t.phase = 2) (hn : ¬ 256 < t.writes.length + ws.length) :
    Calls Tryz.prog 24 #[v, vl, vws] w fun e w' => StepPost2 w (sWrite t l ws).1 (sWrite t l ws).2 e w' := by
  have hC := fun (W : World) (hf : Fr N0 w W) B hB => xcheck1 W v t (h.fr0 hf) hv B 2 (by decide) hB
  have hfw := hv.few
  have hok2 := hv.ok
  have hmay := hv.may
  have hcl1 := fun (W : World) (hf : Fr N0 w W) => tClaims_any W bl vl l (hl.fr0 hf) bw vws ws (hw.fr0 hf) hfl (by omega) hok hpm (hM.fr0 hf)
  have hcl2 := fun (W : World) (hf : Fr N0 w W) b v (hq : Wrs W b v (t.writes ++ ws)) => tClaims_any W bl vl l (hl.fr0 hf) b v _ hq hfl (by simp; omega) (fun x hx => (List.mem_append.1 hx).elim (hok2 x) (hok x)) (fun x hx => (List.mem_append.1 hx).elim (fun h => may_small (hmay x h)) (hpm x)) (hM.fr0 hf)
  have hs : sWrite t l ws = if claimsErr l ws ≠ 0 then ({}, claimsErr l ws) else if claimsErr l (t.writes ++ ws) ≠ 0 then ({}, claimsErr l (t.writes ++ ws)) else ({ phase := 2, start := t.start, writes := t.writes ++ ws, keys := claimsKeys l (t.writes ++ ws) }, 0) := by
    rw [sWrite, if_neg (by omega), if_neg (by omega)]
  obtain ⟨vw, vk, vn, vg, vl', rfl, h⟩ := h
  obtain ⟨⟨aw, cw, rfl⟩, ⟨ak, ck, rfl⟩, ⟨an, cn, rfl⟩, ⟨ag, cg, rfl⟩, ⟨al, cl, rfl⟩⟩ := h.shapes
  obtain ⟨bt, htw⟩ := h.ws
  have hcon := fun (W : World) (hf : Fr N0 w W) B c0 c1 => concatW_any W B bt bw _ vws t.writes ws (htw.fr0 hf) (hw.fr0 hf) (by omega) (by omega) c0 c1
  have hw' := hw
  obtain ⟨aw2, ow2, cw2, rfl, -⟩ := hw'
  have hl' := hl
  obtain ⟨al2, ol2, cl2, rfl, -⟩ := hl'
  clear h hv hl hw htw hok2 hmay
  obtain ⟨ph, st, cm, tws, ks, ns, gs, ls, fl⟩ := t
  simp only at hC hn hfw hcl1 hcl2 hs hcon ⊢
  have hlong : ¬ (256 : Int) < (tws.length : Int) + (ws.length : Int) := by omega
  have hwr : IntKind.i64.wrap ((tws.length : Int) + (ws.length : Int)) = (tws.length : Int) + (ws.length : Int) := by rw [IntKind.wrap_i64]; omega
  simp only [if_pos hp] at hC
  obtain ⟨c1, hc1⟩ : ∃ c, claimsErr l ws = c := ⟨_, rfl⟩
  obtain ⟨c2, hc2⟩ : ∃ c, claimsErr l (tws ++ ws) = c := ⟨_, rfl⟩
  obtain ⟨K1, hK1⟩ : ∃ K, claimsKeys l ws = K := ⟨_, rfl⟩
  obtain ⟨K2, hK2⟩ : ∃ K, claimsKeys l (tws ++ ws) = K := ⟨_, rfl⟩
  simp only [hc1, hc2, hK1, hK2] at hcl1 hcl2 hs
  obtain ⟨S, hS⟩ : ∃ S, sWrite { phase := ph, start := st, commit := cm, writes := tws, keys := ks, needs := ns, groups := gs, left := ls, failed := fl } l ws = S := ⟨_, rfl⟩
  rw [hS] at hs ⊢
  have HC := Lib.hid hC; have HL1 := Lib.hid hcl1; have HL2 := Lib.hid hcl2; have HS := Lib.hid hs; have HCON := Lib.hid hcon
  clear hC hcl1 hcl2 hs hc1 hc2 hK1 hK2 hS hcon
  subst hp
  by_cases h1 : c1 = 0
  · by_cases h2 : c2 = 0
    · have hd1 : (c1 != 0) = false := by simpa using h1
      have hd2 : (c2 != 0) = false := by simpa using h2
      have HS2 := Lib.hid (show S = _ by rw [HS.out, if_neg (by simp [h1]), if_neg (by simp [h2])])
      clear HS h1 h2
      go_enter Tryz.func24, Tryz.ntmps24
      go_wp2_with (first
        | (go_at_call 62; go_loud (refine (HC.out _ (by repeat (first | exact Fr.refl _ _ | assumption | refine Fr.alloc ?_ _ | refine Fr.drew ?_ | refine Fr.drewN ?_ _ | refine Fr.setCell ?_ (.inr (by simp; try omega)) _)) _ (cell_new1 _ _ _ _ (by simp))).mono ?_); rintro e w1 ⟨rfl, hf1⟩; have hbt := hf1.held w.heap.size (blk0 (blk0 (blkN rfl))); obtain ⟨m0, n0, l0⟩ := box_cells hbt; have hbr := hf1.held (w.heap.size + 1) (blk0 (blkN (by simp))); obtain ⟨m2, n2, l2⟩ := box_cells hbr; have HBR := Lib.hid hbr; have HBT := Lib.hid hbt; have hf1w : Fr N0 w w1 := Fr.then0 (by repeat (first | exact Fr.refl _ _ | assumption | refine Fr.alloc ?_ _ | refine Fr.drew ?_ | refine Fr.drewN ?_ _ | refine Fr.setCell ?_ (.inr (by simp; try omega)) _)) hf1; clear hbr hbt)
        | (go_at_call 63; have hq := hf4; go_loud (refine (HL2.out _ (((hf1w.then0 hf3).alloc _).then0 hf4) _ _ hR.out).mono ?_); rintro e w5 ⟨v5, at5, b5, rfl, hk5, hb5, hf5⟩; obtain ⟨ak5, ck5, rfl⟩ := strs_form hk5; have hbt := hf5.held w.heap.size HBT4.out; obtain ⟨m0'', n0'', l0''⟩ := box_cells hbt; have hbr := hf5.held (w.heap.size + 1) HBR4.out; obtain ⟨m1'', n1'', l1''⟩ := box_cells hbr; have HBR5 := Lib.hid hbr; clear hbt hbr)
        | (go_at_call 63; go_loud (refine (HL1.out _ hf1w).mono ?_); rintro e w3 ⟨v3, at3, b3, rfl, hk3, hb3, hf3⟩; have hbt := hf3.held w.heap.size HBT.out; obtain ⟨m0', n0', l0'⟩ := box_cells hbt; have hbr := hf3.held (w.heap.size + 1) HBR.out; obtain ⟨m1', n1', l1'⟩ := box_cells hbr; have HBT3 := Lib.hid hbt; have HBR3 := Lib.hid hbr; clear hbt hbr)
        | (go_at_call 64; go_loud (refine (HCON.out _ ((hf1w.then0 hf3).alloc _) _ (cell_two0 _ _ _ _ _ rfl) (cell_two1 _ _ _ _ _ rfl)).mono ?_); rintro e w4 ⟨v4, b4, rfl, hb4, hw4, hf4⟩; have hbt := hf4.held w.heap.size (blk0 HBT3.out); obtain ⟨m0a, n0a, l0a⟩ := box_cells hbt; have hbr := hf4.held (w.heap.size + 1) (blk0 HBR3.out); obtain ⟨m1a, n1a, l1a⟩ := box_cells hbr; have HBT4 := Lib.hid hbt; have HBR4 := Lib.hid hbr; obtain ⟨a4, q4, c4, rfl, hw4'⟩ := rows_len hw4; have hR := Lib.hid hw4'; clear hbt hbr hw4 hw4'))
      (try simp only [Exit.inBlock, Exit.then])
      obtain rfl := HS2.out
      have hF5 := (((hf1w.then0 hf3).alloc _).then0 hf4).then0 hf5
      refine bodyPost_ret_by (results_row2 rfl _ _ (w.heap.size + 1) 32 _ (0, 0) _ rfl (txn_box_set HBR5.out) rfl Tryz.underlying32 rfl sizeTxn) rfl ?_
      exact (told_store (t := { phase := 2, start := st, writes := tws ++ ws, keys := K2 }) (by omega) HBR5.out (dull_txn _ _ _ _ _ _ _ _ _ _ _ _ _ _ _ _ _ _ _) ⟨_, _, _, _, _, rfl, ⟨⟨b4, hR.out.fr0 hf5⟩, ⟨b5, hk5⟩, ⟨0, RowsK.nil _ _ _ _⟩, ⟨0, Ints.nil _ _ _⟩, ⟨0, Ints.nil _ _ _⟩, fun _ => rfl⟩⟩ (outs_nil _) hF5).step2
    · have hd1 : (c1 != 0) = false := by simpa using h1
      have hd2 : (c2 != 0) = true := by simpa using h2
      have HS2 := Lib.hid (show S = _ by rw [HS.out, if_neg (by simp [h1]), if_pos h2])
      clear HS h1 h2
      go_enter Tryz.func24, Tryz.ntmps24
      go_wp2_with (first
        | (go_at_call 62; go_loud (refine (HC.out _ (by repeat (first | exact Fr.refl _ _ | assumption | refine Fr.alloc ?_ _ | refine Fr.drew ?_ | refine Fr.drewN ?_ _ | refine Fr.setCell ?_ (.inr (by simp; try omega)) _)) _ (cell_new1 _ _ _ _ (by simp))).mono ?_); rintro e w1 ⟨rfl, hf1⟩; have hbt := hf1.held w.heap.size (blk0 (blk0 (blkN rfl))); obtain ⟨m0, n0, l0⟩ := box_cells hbt; have hbr := hf1.held (w.heap.size + 1) (blk0 (blkN (by simp))); obtain ⟨m2, n2, l2⟩ := box_cells hbr; have HBR := Lib.hid hbr; have HBT := Lib.hid hbt; have hf1w : Fr N0 w w1 := Fr.then0 (by repeat (first | exact Fr.refl _ _ | assumption | refine Fr.alloc ?_ _ | refine Fr.drew ?_ | refine Fr.drewN ?_ _ | refine Fr.setCell ?_ (.inr (by simp; try omega)) _)) hf1; clear hbr hbt)
        | (go_at_call 63; have hq := hf4; go_loud (refine (HL2.out _ (((hf1w.then0 hf3).alloc _).then0 hf4) _ _ hR.out).mono ?_); rintro e w5 ⟨v5, at5, b5, rfl, hk5, hb5, hf5⟩; obtain ⟨ak5, ck5, rfl⟩ := strs_form hk5; have hbt := hf5.held w.heap.size HBT4.out; obtain ⟨m0'', n0'', l0''⟩ := box_cells hbt; have hbr := hf5.held (w.heap.size + 1) HBR4.out; obtain ⟨m1'', n1'', l1''⟩ := box_cells hbr; have HBR5 := Lib.hid hbr; clear hbt hbr)
        | (go_at_call 63; go_loud (refine (HL1.out _ hf1w).mono ?_); rintro e w3 ⟨v3, at3, b3, rfl, hk3, hb3, hf3⟩; have hbt := hf3.held w.heap.size HBT.out; obtain ⟨m0', n0', l0'⟩ := box_cells hbt; have hbr := hf3.held (w.heap.size + 1) HBR.out; obtain ⟨m1', n1', l1'⟩ := box_cells hbr; have HBT3 := Lib.hid hbt; have HBR3 := Lib.hid hbr; clear hbt hbr)
        | (go_at_call 64; go_loud (refine (HCON.out _ ((hf1w.then0 hf3).alloc _) _ (cell_two0 _ _ _ _ _ rfl) (cell_two1 _ _ _ _ _ rfl)).mono ?_); rintro e w4 ⟨v4, b4, rfl, hb4, hw4, hf4⟩; have hbt := hf4.held w.heap.size (blk0 HBT3.out); obtain ⟨m0a, n0a, l0a⟩ := box_cells hbt; have hbr := hf4.held (w.heap.size + 1) (blk0 HBR3.out); obtain ⟨m1a, n1a, l1a⟩ := box_cells hbr; have HBT4 := Lib.hid hbt; have HBR4 := Lib.hid hbr; obtain ⟨a4, q4, c4, rfl, hw4'⟩ := rows_len hw4; have hR := Lib.hid hw4'; clear hbt hbr hw4 hw4'))
      (try simp only [Exit.inBlock, Exit.then])
      obtain rfl := HS2.out
      refine bodyPost_ret_by (results_row2 rfl _ _ (w.heap.size + 1) 32 _ (0, 0) _ rfl (txn_box_set HBR5.out) rfl Tryz.underlying32 rfl sizeTxn) rfl ?_
      exact (told_nums (by omega) HBR5.out ((((hf1w.then0 hf3).alloc _).then0 hf4).then0 hf5)).step2
  · skip
    · have hd1 : (c1 != 0) = true := by simpa using h1
      have HS2 := Lib.hid (show S = _ by rw [HS.out, if_pos h1])
      clear HS h1
      go_enter Tryz.func24, Tryz.ntmps24
      go_wp2_with (first
        | (go_at_call 62; go_loud (refine (HC.out _ (by repeat (first | exact Fr.refl _ _ | assumption | refine Fr.alloc ?_ _ | refine Fr.drew ?_ | refine Fr.drewN ?_ _ | refine Fr.setCell ?_ (.inr (by simp; try omega)) _)) _ (cell_new1 _ _ _ _ (by simp))).mono ?_); rintro e w1 ⟨rfl, hf1⟩; have hbt := hf1.held w.heap.size (blk0 (blk0 (blkN rfl))); obtain ⟨m0, n0, l0⟩ := box_cells hbt; have hbr := hf1.held (w.heap.size + 1) (blk0 (blkN (by simp))); obtain ⟨m2, n2, l2⟩ := box_cells hbr; have HBR := Lib.hid hbr; have HBT := Lib.hid hbt; have hf1w : Fr N0 w w1 := Fr.then0 (by repeat (first | exact Fr.refl _ _ | assumption | refine Fr.alloc ?_ _ | refine Fr.drew ?_ | refine Fr.drewN ?_ _ | refine Fr.setCell ?_ (.inr (by simp; try omega)) _)) hf1; clear hbr hbt)
        | (go_at_call 63; have hq := hf4; go_loud (refine (HL2.out _ (((hf1w.then0 hf3).alloc _).then0 hf4) _ _ hR.out).mono ?_); rintro e w5 ⟨v5, at5, b5, rfl, hk5, hb5, hf5⟩; obtain ⟨ak5, ck5, rfl⟩ := strs_form hk5; have hbt := hf5.held w.heap.size HBT4.out; obtain ⟨m0'', n0'', l0''⟩ := box_cells hbt; have hbr := hf5.held (w.heap.size + 1) HBR4.out; obtain ⟨m1'', n1'', l1''⟩ := box_cells hbr; have HBR5 := Lib.hid hbr; clear hbt hbr)
        | (go_at_call 63; go_loud (refine (HL1.out _ hf1w).mono ?_); rintro e w3 ⟨v3, at3, b3, rfl, hk3, hb3, hf3⟩; have hbt := hf3.held w.heap.size HBT.out; obtain ⟨m0', n0', l0'⟩ := box_cells hbt; have hbr := hf3.held (w.heap.size + 1) HBR.out; obtain ⟨m1', n1', l1'⟩ := box_cells hbr; have HBT3 := Lib.hid hbt; have HBR3 := Lib.hid hbr; clear hbt hbr)
        | (go_at_call 64; go_loud (refine (HCON.out _ ((hf1w.then0 hf3).alloc _) _ (cell_two0 _ _ _ _ _ rfl) (cell_two1 _ _ _ _ _ rfl)).mono ?_); rintro e w4 ⟨v4, b4, rfl, hb4, hw4, hf4⟩; have hbt := hf4.held w.heap.size (blk0 HBT3.out); obtain ⟨m0a, n0a, l0a⟩ := box_cells hbt; have hbr := hf4.held (w.heap.size + 1) (blk0 HBR3.out); obtain ⟨m1a, n1a, l1a⟩ := box_cells hbr; have HBT4 := Lib.hid hbt; have HBR4 := Lib.hid hbr; obtain ⟨a4, q4, c4, rfl, hw4'⟩ := rows_len hw4; have hR := Lib.hid hw4'; clear hbt hbr hw4 hw4'))
      (try simp only [Exit.inBlock, Exit.then])
      obtain rfl := HS2.out
      refine bodyPost_ret_by (results_row2 rfl _ _ (w.heap.size + 1) 32 _ (0, 0) _ rfl (txn_box_set HBR3.out) rfl Tryz.underlying32 rfl sizeTxn) rfl ?_
      exact (told_nums (by omega) HBR3.out (hf1w.then0 hf3)).step2

theorem xWrite_any (w : World) (v : Value) (t : Txn) (h : IsTxn w v t) (hv : Inv t) (bl bw : Nat) (vl vws : Value) (l : List Sch) (ws : List Wr) (hl : Schs w bl vl l) (hw : Wrs w bw vws ws) (hok : ∀ x ∈ ws, x.ok) (hpm : ∀ x ∈ ws, x.pred.size ≤ maxLen) (hM : MaxAt w) (hfl : l.length ≤ 1000) (hfw : ws.length ≤ 1000) :
    Calls Tryz.prog 24 #[v, vl, vws] w fun e w' => StepPost2 w (sWrite t l ws).1 (sWrite t l ws).2 e w' := by
  by_cases hn : t.phase ≠ 2 ∨ 256 < t.writes.length + ws.length
  · have := xWrite_early w v t h hv bl bw vl vws l ws hl hw hfw hn
    have e : sWrite t l ws = ({}, if t.phase ≠ 2 then 3 else 4) := by
      unfold sWrite
      by_cases hp : t.phase = 2
      · rw [if_neg (by simp [hp]), if_pos (hn.resolve_left (fun h => h hp)), if_neg (by simp [hp])]
      · rw [if_pos hp, if_pos hp]
    rw [e]; exact this
  · have hp : t.phase = 2 := by
      by_cases hp : t.phase = 2
      · exact hp
      · exact absurd (.inl hp) hn
    exact xWrite_late w v t h hv bl bw vl vws l ws hl hw hok hpm hM (by omega) hp (fun h => hn (.inr h))
end Go.Proofs.YthidminepegnoaaGreatDoor
