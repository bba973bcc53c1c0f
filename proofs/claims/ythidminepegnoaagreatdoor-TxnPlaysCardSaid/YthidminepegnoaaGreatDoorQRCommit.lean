/- The document's Commit. -/
import Derived.Deep.RegionLaw
import Derived.Deep.AppendLies
import Derived.StillTailTactics
import Derived.Test.YthidminepegnoaaGreatDoorQPWrite
import Derived.Test.YthidminepegnoaaGreatDoorQStepS
import Derived.Test.YthidminepegnoaaGreatDoorQLoops
import Derived.Test.YthidminepegnoaaGreatDoorQRSteps2
import Derived.Test.YthidminepegnoaaGreatDoorQPStaged
import Derived.Test.YthidminepegnoaaGreatDoorQRGroups
namespace Go.Proofs.YthidminepegnoaaGreatDoor
open Go.RowKit Go.Shelf Go.Maps Go.Sort
attribute [local go_sem] Oper.semAt_some
attribute [local irreducible] wpQuiet
set_option linter.unusedVariables false
set_option linter.unusedSimpArgs false

set_option maxRecDepth 100000 in
set_option maxHeartbeats 2000000 in
theorem rCommit_no (w : World) (v : Value) (t : Txn) (h : IsTxn w v t) (hv : Inv t) (bt : Nat) (vt : Value) (tbs : List Tb) (ht : Tbs w bt vt tbs) (hp : t.phase ≠ 2) :
    Calls Tryz.prog 38 #[v, vt] w fun e w' => StepPost2 w {} 3 e w' := by
  have hC := fun (W : World) (hf : Fr N0 w W) => rcheck_any W v t (h.fr0 hf) hv 2 2
  obtain ⟨vw, vk, vn, vg, vl', rfl, h⟩ := h
  obtain ⟨⟨aw, cw, rfl⟩, ⟨ak, ck, rfl⟩, ⟨an, cn, rfl⟩, ⟨ag, cg, rfl⟩, ⟨al, cl, rfl⟩⟩ := h.shapes
  obtain ⟨at2, ot2, ct2, rfl, -⟩ := ht
  clear h hv
  obtain ⟨ph, st, cm, tws, ks, ns, gs, ls, fl⟩ := t
  simp only [or_self] at hC hp ⊢
  simp only [if_neg hp] at hC
  have HC := Lib.hid hC
  clear hC hp
  go_enter Tryz.func38, Tryz.ntmps38
  go_wp2_with (go_at_call 75; go_loud (refine (HC.out _ (by repeat (first | exact Fr.refl _ _ | assumption | refine Fr.alloc ?_ _ | refine Fr.drew ?_ | refine Fr.drewN ?_ _ | refine Fr.setCell ?_ (.inr (by simp; try omega)) _))).mono ?_); rintro e w1 ⟨rfl, hf1⟩; have hbt := hf1.held w.heap.size (blk0 (blkN (by simp))); obtain ⟨m0, n0, l0⟩ := box_cells hbt; have hbr := hf1.held (w.heap.size + 1) (blkN (by simp)); obtain ⟨m1, n1, l1⟩ := box_cells hbr; have HBT := Lib.hid hbt; have HBR := Lib.hid hbr; clear hbt hbr)
  (try simp only [Exit.inBlock, Exit.then])
  have hF := ((Fr.refl N0 w).alloc _ |>.alloc _).then0 hf1
  refine bodyPost_ret_by (results_row2 rfl _ _ (w.heap.size + 1) 32 _ (0, 0) _ rfl (txn_box_set HBR.out) rfl Tryz.underlying32 rfl sizeTxn) rfl ?_
  exact (told_nums (by omega) HBR.out hF).step2

set_option maxRecDepth 100000 in
set_option maxHeartbeats 2000000 in
theorem rCommit_read (w : World) (v : Value) (t : Txn) (h : IsTxn w v t) (hv : Inv t) (bt : Nat) (vt : Value) (tbs : List Tb) (ht : Tbs w bt vt tbs) (hp : t.phase = 2) (hw : t.writes = []) :
    Calls Tryz.prog 38 #[v, vt] w fun e w' => StepPost2 w { t with phase := 6, commit := t.start } 0 e w' := by
  have hC := fun (W : World) (hf : Fr N0 w W) => rcheck_any W v t (h.fr0 hf) hv 2 2
  obtain ⟨vw, vk, vn, vg, vl', rfl, h⟩ := h
  obtain ⟨⟨aw, cw, rfl⟩, ⟨ak, ck, rfl⟩, ⟨an, cn, rfl⟩, ⟨ag, cg, rfl⟩, ⟨al, cl, rfl⟩⟩ := h.shapes
  obtain ⟨at2, ot2, ct2, rfl, -⟩ := ht
  have HT := Lib.hid h
  clear h hv
  obtain ⟨ph, st, cm, tws, ks, ns, gs, ls, fl⟩ := t
  simp only [or_self] at hC hp hw HT ⊢
  simp only [if_pos hp] at hC
  have HC := Lib.hid hC
  subst hp; subst hw
  clear hC
  go_enter Tryz.func38, Tryz.ntmps38
  go_wp2_with (go_at_call 75; go_loud (refine (HC.out _ (by repeat (first | exact Fr.refl _ _ | assumption | refine Fr.alloc ?_ _ | refine Fr.drew ?_ | refine Fr.drewN ?_ _ | refine Fr.setCell ?_ (.inr (by simp; try omega)) _))).mono ?_); rintro e w1 ⟨rfl, hf1⟩; have hbt := hf1.held w.heap.size (blk0 (blkN (by simp))); obtain ⟨m0, n0, l0⟩ := box_cells hbt; have hbr := hf1.held (w.heap.size + 1) (blkN (by simp)); obtain ⟨m1, n1, l1⟩ := box_cells hbr; have HBT := Lib.hid hbt; have HBR := Lib.hid hbr; clear hbt hbr)
  (try simp only [Exit.inBlock, Exit.then])
  have hF := ((Fr.refl N0 w).alloc _ |>.alloc _).then0 hf1
  refine bodyPost_ret_by (results_row2 rfl _ _ (w.heap.size + 1) 32 _ (0, 0) _ rfl (blk0 (txn_box_set HBR.out)) rfl Tryz.underlying32 rfl sizeTxn) rfl ?_
  exact ((told_store (t := ⟨6, st, st, [], ks, ns, gs, ls, fl⟩) (by omega) HBR.out (dull_txn _ _ _ _ _ _ _ _ _ _ _ _ _ _ _ _ _ _ _) (IsTxn.fr0 (w := w) ⟨_, _, _, _, _, rfl, ⟨HT.out.ws, HT.out.ks, HT.out.ns, HT.out.gs, HT.out.ls, HT.out.n0⟩⟩ hF) (outs_nil _) hF).alloc _).step2

set_option maxRecDepth 100000 in
set_option maxHeartbeats 4000000 in
theorem rCommit_main (w : World) (v : Value) (t : Txn) (h : IsTxn w v t) (hv : Inv t) (bt : Nat) (vt : Value) (tbs : List Tb) (ht : Tbs w bt vt tbs) (hok : ∀ b ∈ tbs, b.ok) (hl : tbs.length ≤ 1000) (hp : t.phase = 2) (hw : t.writes ≠ []) :
    Calls Tryz.prog 38 #[v, vt] w fun e w' => StepPost2 w (sCommit t tbs).1 (sCommit t tbs).2 e w' := by
  have hC := fun (W : World) (hf : Fr N0 w W) => rcheck_any W v t (h.fr0 hf) hv 2 2
  have herr : ∀ P, predsOf t.writes = P → ∀ i (hi : i < P.length), (∀ j (h : j < P.length), j < i → tabErr tbs P[j] = 0) → tabErr tbs P[i] ≠ 0 → sCommit t tbs = ({}, tabErr tbs P[i]) := by
    rintro P rfl i hi hn he; exact commit_err hp hw hi hn he
  have hokk : ∀ P, predsOf t.writes = P → (∀ j (h : j < P.length), tabErr tbs P[j] = 0) → sCommit t tbs = ({ t with phase := 3, needs := P.map (tabRt tbs), groups := groupsOf (P.map (tabRt tbs)), left := groupsOf (P.map (tabRt tbs)) }, 0) := by
    rintro P rfl hn; exact commit_ok hp hw hn
  have hic := fun hh => inv_commit (t := t) (tbs := tbs) hv hok hh
  have hst := hv.still (by omega) (by omega) (by omega)
  have hlf := hv.none_ (by omega) (by omega)
  have hpf := preds_few t.writes
  have hwf := hv.few
  obtain ⟨i0, hi, hz0, hz1, hz2⟩ := info_parts infoRt
  obtain ⟨vw, vk, vn, vg, vl', rfl, h⟩ := h
  have hn0 := h.n0 hst.1
  subst hn0
  obtain ⟨bw, htw⟩ := h.ws
  have hpc := fun (W : World) (hf : Fr N0 w W) => r4Preds_any W bw _ t.writes (htw.fr0 hf) (by omega)
  obtain ⟨⟨aw, cw, rfl⟩, ⟨ak, ck, rfl⟩, -, ⟨ag, cg, rfl⟩, ⟨al, cl, rfl⟩⟩ := h.shapes
  have ht' := ht
  obtain ⟨at2, ot2, ct2, rfl, t1, t2, t3, -, t5⟩ := ht'
  have HT := Lib.hid h; have HTB := Lib.hid t5
  obtain ⟨S, hS⟩ : ∃ S, sCommit t tbs = S := ⟨_, rfl⟩
  rw [hS] at hic ⊢
  simp only [hS] at herr hokk
  clear h hv htw hS ht t5
  obtain ⟨ph, st, cm, ws, ks, ns, gs, ls, fl⟩ := t
  simp only [or_self] at hC hp hw hst hlf hpf hwf hpc HT herr hokk hic ⊢
  simp only [if_pos hp] at hC
  obtain ⟨rfl, rfl⟩ := hst
  subst hp; subst hlf
  have hlen : 0 < ws.length := List.length_pos_iff.2 hw
  have hpe : normS (ws.map (·.pred)) = predsOf ws := rfl
  simp only [hpe] at hpc
  obtain ⟨P, hP⟩ : ∃ P, predsOf ws = P := ⟨_, rfl⟩
  simp only [hP] at hpc hpf
  replace herr := herr P hP
  replace hokk := hokk P hP
  have hl0 : ((ws.length : Int) == 0) = false := by simp; omega
  have HC := Lib.hid hC; have HPC := Lib.hid hpc; have HERR := Lib.hid herr; have HOK := Lib.hid hokk; have HIC := Lib.hid hic
  clear hC hpc herr hokk hic hP hw hpe
  go_enter Tryz.func38, Tryz.ntmps38
  go_wp2_with (first
    | (go_at_call 75; go_loud (refine (HC.out _ (by repeat (first | exact Fr.refl _ _ | assumption | refine Fr.alloc ?_ _ | refine Fr.drew ?_ | refine Fr.drewN ?_ _ | refine Fr.setCell ?_ (.inr (by simp; try omega)) _))).mono ?_); rintro e w1 ⟨rfl, hf1⟩; have hbt := hf1.held w.heap.size (blk0 (blkN (by simp))); obtain ⟨m0, n0, l0⟩ := box_cells hbt; have hbr := hf1.held (w.heap.size + 1) (blkN (by simp)); obtain ⟨m1, n1, l1⟩ := box_cells hbr; have hf1w : Fr N0 w w1 := Fr.then0 (by repeat (first | exact Fr.refl _ _ | assumption | refine Fr.alloc ?_ _ | refine Fr.drew ?_ | refine Fr.drewN ?_ _ | refine Fr.setCell ?_ (.inr (by simp; try omega)) _)) hf1; have HBT := Lib.hid hbt; have HBR := Lib.hid hbr; clear hbt hbr)
    | (go_at_call 77; go_loud (refine (HPC.out _ (hf1w.alloc _)).mono ?_); rintro e w2 ⟨vp, bp, rfl, hsp, hf2⟩))
  have hbx := hf2.held w1.heap.size (blkN rfl)
  have hbr2 := hf2.held (w.heap.size + 1) (blk0 HBR.out)
  have hfw2 : Fr N0 w w2 := (hf1w.alloc _).then0 hf2
  have hsz2 := hf2.size
  rw [World.size_alloc] at hsz2
  obtain ⟨X, hXe⟩ : ∃ X, w1.heap.size = X := ⟨_, rfl⟩
  rw [hXe] at hbx l1 hsz2 ⊢
  obtain ⟨ap, op, cp, rfl, s1, s2, s3, -, s5⟩ := id hsp
  have S5 := Lib.hid s5; have HBX := Lib.hid hbx; have HBR2 := Lib.hid hbr2; have HFW := Lib.hid hfw2
  clear m0 n0 l0 m1 n1 hf1 hf2 hf1w HBT HBR HC HPC hsp s5 hbx hbr2 hfw2
  clear hXe w1
  go_loopw [9] (fun iv wr => ∃ (i : Nat) (ao : Option Addr) (co : Nat), i ≤ P.length ∧ iv = .int .i64 i ∧ Hid (∀ j (h : j < P.length), j < i → tabErr tbs P[j] = 0) ∧
      Hid (wr.heap[X]? = some (.cells #[.int .u8 2, .int .u64 st, .int .u64 cm, .slice aw ws.length cw, .slice ak ks.length ck, .slice ao i co, .slice ag 0 cg, .slice al 0 cl, .bool fl] 32 (0, 0))) ∧
      wr.ownsRow w2.heap.size 92 3 (.slice ao i co) i (((P.take i).map (tabRt tbs)).flatMap Rt.enc) ∧ Fr (fun b => b = X) w2 wr) (fun iv _ => P.length - (intOf iv).toNat)
  case atStart => exact ⟨0, none, 0, Nat.zero_le _, rfl, fun j h hj => by omega, HBX.out, World.ownsRow_nil _ _ _ _, Fr.refl _ _⟩
  case round =>
    obtain ⟨i, ao, co, hile, rfl, hgood, hbo, hrow, hfr⟩ := hrel
    have hwsz := hfr.size
    have hF : Fr N0 w wr := HFW.out.trans hfr fun q e => .inr (by rw [show q = X from e]; omega)
    have hbrr := (hfr.at (k := w.heap.size + 1) (by show ¬ w.heap.size + 1 = X; omega) (lt_of_block HBR2.out)).trans HBR2.out
    have HBRR := Lib.hid hbrr; have HF := Lib.hid hF
    clear hbrr hF
    by_cases hlt : i < P.length
    · obtain rfl := s3 (by omega)
      have hbpX : bp ≠ X := fun e => (dull_cell HBX.out (dull_txn _ _ _ _ _ _ _ _ _ _ _ _ _ _ _ _ _ _ _) (e ▸ S5.out i hlt)).1 _ rfl
      have hpi := hfr.cell (p := ⟨bp, op + i, none⟩) (show ¬ bp = X from hbpX) (S5.out i hlt)
      have herr := fun (hne : tabErr tbs P[i] ≠ 0) => HERR.out i hlt hgood.out hne
      have hgd : tabErr tbs P[i] = 0 → ∀ j (h : j < P.length), j < i + 1 → tabErr tbs P[j] = 0 := fun he j h hj => by
        rcases Nat.lt_or_ge j i with h' | h'
        · exact hgood.out j h h'
        · have : j = i := by omega
          subst this; exact he
      have hts := tab_take (tbs := tbs) hlt
      obtain ⟨p, hpe⟩ : ∃ p, P[i] = p := ⟨_, rfl⟩
      rw [hpe] at hpi herr hts hgd
      have HER := Lib.hid herr; have HTS := Lib.hid hts; have HGD := Lib.hid hgd; have HROW := Lib.hid hrow; have HFR := Lib.hid hfr
      have hii : (i : Int) < (P.length : Int) := by omega
      have HBO := hbo
      clear herr hts hgd hrow hpe hgood hbo
      go_wp2
      have hpc0 := hpi
      have HPI := Lib.hid hpi
      clear hpi
      obtain ⟨wA, rfl⟩ : ∃ wA, wA = wr := ⟨_, rfl⟩
      clear hfr
      go_loopw [10] (fun kv wq => ∃ m : Nat, m ≤ tbs.length ∧ kv = .int .i64 m ∧ Hid (∀ j (h : j < tbs.length), j < m → tbs[j].pred ≠ p) ∧ Fr N0 wA wq) (fun kv _ => tbs.length - (intOf kv).toNat)
      case atStart => exact ⟨0, Nat.zero_le _, rfl, fun j h hj => by omega, Fr.refl _ _⟩
      case round =>
        obtain ⟨m, hm, rfl, hno, hfq⟩ := hrel
        have hpi := hfq.cell id HPI.out
        have hbq := hfq.held X HBO.out
        have hbrq := hfq.held (w.heap.size + 1) HBRR.out
        obtain ⟨mb, nb, lb⟩ := box_cells hbq
        obtain ⟨mr, nr, lr⟩ := box_cells hbrq
        have HBQ := Lib.hid hbq; have HRQ := Lib.hid hbrq
        clear hbq hbrq
        by_cases hlm : m < tbs.length
        · obtain rfl := t3 (by omega)
          have hc := HTB.out m hlm
          have hbt : bt < w.heap.size := lt_of_cell (p := ⟨bt, ot2 + m * 5 + 0, none⟩) (hc 0 (by omega))
          obtain ⟨c0, c1, c2, c3, c4⟩ := tb_cells (W := w) hc
          have hcc : ∀ (i : Nat) (u : Value), w.cell? ⟨bt, i, none⟩ = some u → wr.cell? ⟨bt, i, none⟩ = some u := fun i u hu => (HF.out.then0 hfq).cell id hu
          replace c0 := hcc _ _ c0; replace c1 := hcc _ _ c1; replace c2 := hcc _ _ c2; replace c4 := hcc _ _ c4
          have hmi : (m : Int) < (tbs.length : Int) := by omega
          by_cases heq : tbs[m].pred = p
          · obtain ⟨e1, e2⟩ := tab_at hlm (fun j hj hlt => hno.out j hj hlt) heq
            have hd : (tbs[m].pred.toList == p.toList) = true := by rw [heq]; exact beq_self_eq_true _
            obtain ⟨x, hx⟩ : ∃ x, tbs[m] = x := ⟨_, rfl⟩
            simp only [hx] at c0 c1 c2 c4 hd e1 e2
            clear hno hx heq hc c3 hcc
            obtain ⟨xp, xg, xo, xa, xt⟩ := x
            simp only at c0 c1 c2 c4 hd e1 e2
            have hml : ((m : Int) == (tbs.length : Int)) = false := by simp; omega
            by_cases hbad : xg = 0 ∨ xt = 0
            · rw [if_pos hbad] at e1
              have hS := HER.out (by rw [e1]; decide)
              rw [e1] at hS
              have HS := Lib.hid hS
              have hcs : (xg == 0) = true ∨ (xg == 0) = false ∧ (xt == 0) = true := by
                by_cases h1 : xg = 0
                · exact .inl (by simpa using h1)
                · exact .inr ⟨by simpa using h1, by simpa using hbad.resolve_left h1⟩
              clear hS e1 e2 hbad
              rcases hcs with hg1 | ⟨hg1, hg2⟩
              all_goals
                go_wp2
                all_goals try (go_quiet (fail); go_wp2)
                all_goals try (go_quiet (fail); go_wp2)
                all_goals
                  (try simp only [Exit.inBlock, Exit.then])
                  refine bodyPost_ret_by (results_row2 rfl _ _ (w.heap.size + 1) 32 _ (0, 0) _ rfl (txn_box_set HRQ.out) rfl Tryz.underlying32 rfl sizeTxn) rfl ?_
                  obtain rfl := HS.out
                  first | exact (told_nums (w := w) (W := wr) (by omega) HRQ.out (HF.out.then0 hfq)).step2 | exact (told_nums (w := w) (W := wr.drewN _) (by omega) HRQ.out ((HF.out.then0 hfq).drewN _)).step2
            · have hg1 : (xg == 0) = false := by simpa using fun h => hbad (.inl h)
              have hg2 : (xt == 0) = false := by simpa using fun h => hbad (.inr h)
              rw [if_neg hbad] at e1
              by_cases hto : xo = 0
              · have hg3 : (xo != 0) = false := by simpa using hto
                rw [if_neg (by simpa using hto)] at e1
                have HGD2 := Lib.hid (HGD.out e1)
                have hts := HTS.out
                rw [e2] at hts
                have HTS2 := Lib.hid hts
                have HR2 := Lib.hid (HROW.out.frT hfq fun _ _ => id)
                have hnb : (Value.slice ao i co).ownBlock ≠ some X := fun e => by have h1 := (HROW.out.lt _ e).1; omega
                have HNB := Lib.hid hnb
                have hPl : P.length ≤ 256 := by omega
                clear hnb
                clear e1 e2 hbad hts hto
                go_wp2
                all_goals try (go_quiet (fail); go_wp2)
                all_goals try (go_quiet (fail); go_wp2)
                have hF2 : Fr N0 wr (wr.drewN nq) := (Fr.refl _ _).drewN _
                have hqB := hfq.then0 hF2
                have hbB := hF2.held X HBQ.out
                have hrB := hF2.held (w.heap.size + 1) HRQ.out
                have HRB := Lib.hid (HR2.out.frT hF2 fun _ _ => id)
                replace hpi := hF2.cell id hpi; replace c0 := hF2.cell id c0; replace c1 := hF2.cell id c1; replace c2 := hF2.cell id c2; replace c4 := hF2.cell id c4
                clear mb nb lb mr nr lr hF2 HBQ HRQ HR2 hfq
                generalize wr.drewN nq = wB at *
                obtain ⟨mb, nb, lb⟩ := box_cells hbB
                have HBB := Lib.hid hbB; have HRR := Lib.hid hrB
                have hqz := hqB.size
                clear hbB hrB
                go_region_law (refine step_append_lies _ rfl _ _ 29 rfl (w2.heap.size) 92 i0 zeroRtV 3 32 Tryz.underlying29 hi hz0 hz1 hz2 rfl (by decide) (.slice ao i co) (i) _ (by simp [Act.eval, Act.put]) (HRB.out.alloc _) ⟨wB.heap.size, 0, none⟩ 1 1 ([.string p, .int .u32 xg, .int .u64 xt]) (by simp [Act.eval, Act.put]) rfl (World.news_of_block (cs := ([.string p, .int .u32 xg, .int .u64 xt]).toArray) (t := 92) (fr := (0, 0)) (heap_alloc_new _ _)) (by simp [Value.oneCell']) (by omega) (by unfold maxLen; omega) (by omega) (by simp; omega) (wB.heap.size + 1) (by simp) ?_; intro g gc w5 hown hgrow hfresh hlt1; have hbw := (hgrow.block X (by simp; omega) (fun e => HNB.out e.symm)).trans ((Below.heap_alloc _ _ _ lb).trans HBB.out); obtain ⟨m7, n7, hl7⟩ := box_cells hbw; have HBW := Lib.hid hbw; clear hbw)
                all_goals
                  go_wp2
                  go_roundw
                  case rel =>
                    have hbs := box_set (i := 5) (v := .slice (some ⟨g, 0, none⟩) (i + 1) gc) HBW.out
                    simp only [List.setIfInBounds_toArray, List.set_cons_zero, List.set_cons_succ] at hbs
                    refine ⟨i + 1, some ⟨g, 0, none⟩, gc, by omega, by go_num, HGD2.out, hbs, ?_, ?_⟩
                    · rw [HTS2.out]
                      exact ownsRow_same hown fun q e => heap_setCell_other _ _ _ _ (by have h1 := (hown.lt q e).1; show q ≠ X; omega)
                    · exact (((HFR.out.then0 hqB).alloc _).drew.grown hgrow fun q e => .inr (by have h1 := (HROW.out.lt q e).1; omega)).setCell (p := ⟨X, 5, none⟩) (.inl rfl) _
                  case measure => simp [intOf]; omega
              · have hg3 : (xo != 0) = true := by simpa using hto
                rw [if_pos (by simpa using hto)] at e1
                have hS := HER.out (by rw [e1]; decide)
                rw [e1] at hS
                have HS := Lib.hid hS
                clear hS e1 e2 hbad hto
                go_wp2
                all_goals try (go_quiet (fail); go_wp2)
                all_goals try (go_quiet (fail); go_wp2)
                all_goals
                  (try simp only [Exit.inBlock, Exit.then])
                  refine bodyPost_ret_by (results_row2 rfl _ _ (w.heap.size + 1) 32 _ (0, 0) _ rfl (txn_box_set HRQ.out) rfl Tryz.underlying32 rfl sizeTxn) rfl ?_
                  obtain rfl := HS.out
                  first | exact (told_nums (w := w) (W := wr) (by omega) HRQ.out (HF.out.then0 hfq)).step2 | exact (told_nums (w := w) (W := wr.drewN _) (by omega) HRQ.out ((HF.out.then0 hfq).drewN _)).step2
          · have hd : (tbs[m].pred.toList == p.toList) = false := by rw [beq_toList]; simpa using heq
            have hnx : ∀ j (h : j < tbs.length), j < m + 1 → tbs[j].pred ≠ p := fun j h hj => by
              rcases Nat.lt_or_ge j m with h' | h'
              · exact hno.out j h h'
              · have : j = m := by omega
                subst this; exact heq
            obtain ⟨x, hx⟩ : ∃ x, tbs[m] = x := ⟨_, rfl⟩
            simp only [hx] at c0 c1 c2 c4 hd
            have HNX := Lib.hid hnx
            clear hnx hno hx heq hc c3 hcc
            obtain ⟨xp, xg, xo, xa, xt⟩ := x
            simp only at c0 c1 c2 c4 hd
            go_wp2
            all_goals try (go_quiet (fail); go_wp2)
            all_goals
              go_roundw
              case rel => exact ⟨m + 1, by omega, by go_num, HNX.out, by first | exact hfq | exact hfq.drew | exact hfq.drewN _⟩
              case measure => simp [intOf]; omega
        · obtain rfl : m = tbs.length := by omega
          have h5 : tabErr tbs p = 5 := tab_none fun j hj => hno.out j hj hj
          have hS := HER.out (by rw [h5]; decide)
          rw [h5] at hS
          have HS := Lib.hid hS
          clear hS h5 hno
          go_wp2
          all_goals try (go_quiet (fail); go_wp2)
          all_goals try (go_quiet (fail); go_wp2)
          all_goals
            (try simp only [Exit.inBlock, Exit.then])
            refine bodyPost_ret_by (results_row2 rfl _ _ (w.heap.size + 1) 32 _ (0, 0) _ rfl (txn_box_set HRQ.out) rfl Tryz.underlying32 rfl sizeTxn) rfl ?_
            obtain rfl := HS.out
            first | exact (told_nums (w := w) (W := wr) (by omega) HRQ.out (HF.out.then0 hfq)).step2 | exact (told_nums (w := w) (W := wr.drewN _) (by omega) HRQ.out ((HF.out.then0 hfq).drewN _)).step2
    · obtain rfl : i = P.length := by omega
      have hS := HOK.out (fun j h => hgood.out j h h)
      have hinv := HIC.out (by rw [hS])
      rw [hS] at hinv
      have hne := (hinv.moving (.inl rfl)).some_
      have hrt := hinv.rts
      simp only at hne hrt
      have hnl : (P.map (tabRt tbs)).length = P.length := by simp
      rw [List.take_length, ← hnl] at hrow
      obtain ⟨bb, hbb, hrows⟩ := rowsK_of_row (enc := Rt.enc) (n := 3) (fun _ => rfl) (by decide) hrow
      rw [hnl] at hrows
      obtain ⟨N, hN⟩ : ∃ N, P.map (tabRt tbs) = N := ⟨_, rfl⟩
      rw [hN] at hrows hnl hne hrt hS
      have hT := HT.out.fr0 HF.out
      have hdl := fun (ph : Int) (nl : Nat) (gx lx : Option Addr) (gn ln gc lc : Nat) => dull_txn ph st cm aw ak ao gx lx ws.length ks.length nl gn ln cw ck co gc lc fl
      have h0 : XB w wr (w.heap.size + 1) X #[.int .u8 2, .int .u64 st, .int .u64 cm, .slice aw ws.length cw, .slice ak ks.length ck, .slice ao P.length co, .slice ag 0 cg, .slice al 0 cl, .bool fl] (.slice aw ws.length cw) (.slice ak ks.length ck) (.slice ao P.length co) (.slice ag 0 cg) (.slice al 0 cl) ⟨3, st, cm, ws, ks, N, [], [], fl⟩ :=
        ⟨HBRR.out, hbo.out, ⟨hT.ws, hT.ks, ⟨bb, hrows⟩, hT.gs, hT.ls, fun e => by rw [show N = [] from e] at hne; simp at hne⟩, HF.out⟩
      have h1 := h0.set (hdl _ _ _ _ _ _ _ _) (by omega) (by omega) 0 (.int .u8 3)
      simp only [List.setIfInBounds_toArray, List.set_cons_zero, List.set_cons_succ] at h1
      obtain ⟨mx, nx, lx⟩ := box_cells hbo.out
      have hgr := fun (W : World) b (hq : Rts W b (.slice ao P.length co) N) => rgroups_any W b _ N hq (by omega) (fun r hr => (hrt r hr).1)
      have HGR := Lib.hid hgr; have HS := Lib.hid hS; have H1 := Lib.hid h1; have HDL := Lib.hid hdl; have HNE := Lib.hid hne
      clear hgr hS h1 h0 hdl hrows hrow hT hinv hrt hN hne hgood
      go_wp2_with (first
        | (go_at_call 78; have hq := hf3; obtain ⟨bn4, hns4⟩ := H3.out.2.2.1.ns; go_loud (refine (HGR.out _ _ hns4).mono ?_); rintro e w5 ⟨vG2, bG2, rfl, hG2, hf5⟩; obtain ⟨aG2, cG2, rfl⟩ := ints_form hG2; have hx5 := hf5.held X H3.out.2.1; have hz5 := hf5.held (w.heap.size + 1) H3.out.1; obtain ⟨m5, n5, l5⟩ := box_cells hx5; obtain ⟨m6, n6, l6⟩ := box_cells hz5; have H5 := Lib.hid (show XB w w5 (w.heap.size + 1) X _ _ _ _ _ _ _ from ⟨hz5, hx5, H3.out.2.2.1.fr0 hf5, H3.out.2.2.2.then0 hf5⟩); have HG2 := Lib.hid hG2; clear hx5 hz5 hG2)
        | (go_at_call 78; obtain ⟨bn3, hns3⟩ := H1.out.2.2.1.ns; go_loud (refine (HGR.out _ _ hns3).mono ?_); rintro e w3 ⟨vG1, bG1, rfl, hG1, hf3⟩; obtain ⟨aG1, cG1, rfl⟩ := ints_form hG1; have hx3 := hf3.held X H1.out.2.1; have hz3 := hf3.held (w.heap.size + 1) H1.out.1; obtain ⟨m3, n3, l3⟩ := box_cells hx3; have h2 : XB w w3 (w.heap.size + 1) X _ _ _ _ _ _ _ := ⟨hz3, hx3, H1.out.2.2.1.fr0 hf3, H1.out.2.2.2.then0 hf3⟩; have h3 := h2.set (HDL.out _ _ _ _ _ _ _ _) (by omega) (by omega) 6 (.slice aG1 (groupsOf N).length cG1); simp only [List.setIfInBounds_toArray, List.set_cons_zero, List.set_cons_succ] at h3; have H3 := Lib.hid h3; have HG1 := Lib.hid (ints_past hG1 hx3 (HDL.out _ _ _ _ _ _ _ _) ((Fr.refl (fun k => k = X) w3).setCell (p := ⟨X, 6, none⟩) (.inl rfl) (.slice aG1 (groupsOf N).length cG1))); clear hx3 hz3 h2 h3 hG1))
      (try simp only [Exit.inBlock, Exit.then])
      have h6 := H5.out.set (HDL.out _ _ _ _ _ _ _ _) (by omega) (by omega) 7 (.slice aG2 (groupsOf N).length cG2)
      simp only [List.setIfInBounds_toArray, List.set_cons_zero, List.set_cons_succ] at h6
      have hfx : Fr (fun k => k = X) w5 (w5.setCell ⟨X, 7, none⟩ (.slice aG2 (groupsOf N).length cG2)) := (Fr.refl (fun k => k = X) w5).setCell (p := ⟨X, 7, none⟩) (.inl rfl) _
      have hg1 := ints_past (HG1.out.fr0 hf5) H5.out.2.1 (HDL.out _ _ _ _ _ _ _ _) hfx
      have hg2 := ints_past HG2.out H5.out.2.1 (HDL.out _ _ _ _ _ _ _ _) hfx
      obtain rfl := HS.out
      refine bodyPost_ret_by (results_row2 rfl _ _ (w.heap.size + 1) 32 _ (0, 0) _ rfl (txn_box_set h6.1) rfl Tryz.underlying32 rfl sizeTxn) rfl ?_
      exact (told_store (t := ⟨3, st, cm, ws, ks, N, groupsOf N, groupsOf N, fl⟩) (by omega) h6.1 (dull_txn _ _ _ _ _ _ _ _ _ _ _ _ _ _ _ _ _ _ _) ⟨_, _, _, _, _, rfl, ⟨h6.2.2.1.ws, h6.2.2.1.ks, h6.2.2.1.ns, ⟨bG1, hg1⟩, ⟨bG2, hg2⟩, h6.2.2.1.n0⟩⟩ (outs_nil _) h6.2.2.2).step2

theorem rCommit_any (w : World) (v : Value) (t : Txn) (h : IsTxn w v t) (hv : Inv t) (bt : Nat) (vt : Value) (tbs : List Tb) (ht : Tbs w bt vt tbs) (hok : ∀ b ∈ tbs, b.ok) (hl : tbs.length ≤ 1000) :
    Calls Tryz.prog 38 #[v, vt] w fun e w' => StepPost2 w (sCommit t tbs).1 (sCommit t tbs).2 e w' := by
  by_cases hp : t.phase = 2
  · by_cases hw : t.writes = []
    · have := rCommit_read w v t h hv bt vt tbs ht hp hw
      rw [show sCommit t tbs = ({ t with phase := 6, commit := t.start }, 0) by rw [sCommit, if_neg (by omega), if_pos hw]]
      exact this
    · exact rCommit_main w v t h hv bt vt tbs ht hok hl hp hw
  · have := rCommit_no w v t h hv bt vt tbs ht hp
    rw [show sCommit t tbs = ({}, 3) by rw [sCommit, if_pos hp]]
    exact this
end Go.Proofs.YthidminepegnoaaGreatDoor
