/- The program's Commit: not open; nothing written. The program's Commit: its writes' predicates are routed. -/
import Derived.Deep.RegionLaw
import Derived.Deep.AppendLies
import Derived.StillTailTactics
import Derived.Test.YthidminepegnoaaGreatDoorQRSteps
import Derived.Test.YthidminepegnoaaGreatDoorQStepS
import Derived.Test.YthidminepegnoaaGreatDoorQPStaged
import Derived.Test.YthidminepegnoaaGreatDoorQPWrite
import Derived.Test.YthidminepegnoaaGreatDoorQRSteps2
import Derived.Test.YthidminepegnoaaGreatDoorQLoops
import Derived.Test.YthidminepegnoaaGreatDoorQSame
namespace Go.Proofs.YthidminepegnoaaGreatDoor
open Go.RowKit Go.Shelf Go.Maps Go.Sort
attribute [local go_sem] Oper.semAt_some
attribute [local irreducible] wpQuiet
set_option linter.unusedVariables false
set_option linter.unusedSimpArgs false

set_option maxRecDepth 100000 in
set_option maxHeartbeats 2000000 in
theorem xCommit_no (w : World) (v : Value) (t : Txn) (h : IsTxn w v t) (hv : Inv t) (bt : Nat) (vt : Value) (tbs : List Tb) (ht : Tbs w bt vt tbs) (hp : t.phase ≠ 2) :
    Calls Tryz.prog 27 #[v, vt] w fun e w' => StepPost w {} [] 3 e w' := by
  have hC := fun (W : World) (hf : Fr N0 w W) B hB => xcheck1 W v t (h.fr0 hf) hv B 2 (by decide) hB
  obtain ⟨vw, vk, vn, vg, vl, rfl, h⟩ := h
  obtain ⟨at2, ot2, ct2, rfl, -⟩ := ht
  simp only [if_neg hp] at hC
  clear h hv
  obtain ⟨ph, st, cm, ws, ks, ns, gs, ls, fl⟩ := t
  simp only at hC
  have HC := Lib.hid hC
  clear hC hp
  go_enter Tryz.func27, Tryz.ntmps27
  go_wp2_with (go_at_call 62; go_loud (refine (HC.out _ (by repeat (first | exact Fr.refl _ _ | assumption | refine Fr.alloc ?_ _ | refine Fr.drew ?_ | refine Fr.drewN ?_ _ | refine Fr.setCell ?_ (.inr (by simp; try omega)) _)) _ (cell_new1 _ _ _ _ (by simp))).mono ?_); rintro e w1 ⟨rfl, hf1⟩; have hbr := hf1.held (w.heap.size + 1) (blk0 (blkN (by simp))); obtain ⟨m2, n2, l2⟩ := box_cells hbr; have HBR := Lib.hid hbr; clear hbr)
  (try simp only [Exit.inBlock, Exit.then])
  refine bodyPost_ret_by (results_row3 rfl _ _ (w.heap.size + 1) 32 _ (0, 0) _ rfl (txn_box_set HBR.out) rfl rfl Tryz.underlying32 rfl sizeTxn) rfl ?_
  exact (told_nums (by omega) HBR.out (((((Fr.refl N0 w).alloc _).alloc _).alloc _).then0 hf1)).step

theorem blkD {W : World} {o : Obj} {k : Nat} (h : W.heap[k]? = some o) : W.drew.heap[k]? = some o := h

set_option maxRecDepth 100000 in
set_option maxHeartbeats 2000000 in
theorem xCommit_read (w : World) (v : Value) (t : Txn) (h : IsTxn w v t) (hv : Inv t) (bt : Nat) (vt : Value) (tbs : List Tb) (ht : Tbs w bt vt tbs) (hp : t.phase = 2) (hw : t.writes = []) :
    Calls Tryz.prog 27 #[v, vt] w fun e w' => StepPost w { t with phase := 6, commit := t.start } [] 0 e w' := by
  have hC := fun (W : World) (hf : Fr N0 w W) B hB => xcheck1 W v t (h.fr0 hf) hv B 2 (by decide) hB
  have hO := fun (W : World) (hf : Fr N0 w W) => xown_any W v t (h.fr0 hf) hv
  obtain ⟨vw, vk, vn, vg, vl, rfl, h⟩ := h
  obtain ⟨⟨aw0, cw0, rfl⟩, ⟨ak0, ck0, rfl⟩, ⟨an0, cn0, rfl⟩, ⟨ag0, cg0, rfl⟩, ⟨al0, cl0, rfl⟩⟩ := h.shapes
  obtain ⟨at2, ot2, ct2, rfl, -⟩ := ht
  simp only [if_pos hp] at hC
  clear h hv
  obtain ⟨ph, st, cm, ws, ks, ns, gs, ls, fl⟩ := t
  obtain rfl := hp
  obtain rfl := hw
  simp only at hC hO ⊢
  have HC := Lib.hid hC; have HO := Lib.hid hO
  clear hC hO
  go_enter Tryz.func27, Tryz.ntmps27
  go_wp2_with (first
    | (go_at_call 62; go_loud (refine (HC.out _ (by repeat (first | exact Fr.refl _ _ | assumption | refine Fr.alloc ?_ _ | refine Fr.drew ?_ | refine Fr.drewN ?_ _ | refine Fr.setCell ?_ (.inr (by simp; try omega)) _)) _ (cell_new1 _ _ _ _ (by simp))).mono ?_); rintro e w1 ⟨rfl, hf1⟩; have hba := hf1.held w.heap.size (blk0 (blk0 (blkN rfl))); obtain ⟨m1, n1, l1⟩ := box_cells hba; have hbr := hf1.held (w.heap.size + 1) (blk0 (blkN (by simp))); obtain ⟨m2, n2, l2⟩ := box_cells hbr; have HBR := Lib.hid hbr; have HBA := Lib.hid hba; clear hbr hba)
    | (go_at_call 65; go_loud (refine (HO.out _ (Fr.then0 (by repeat (first | exact Fr.refl _ _ | assumption | refine Fr.alloc ?_ _ | refine Fr.drew ?_ | refine Fr.drewN ?_ _ | refine Fr.setCell ?_ (.inr (by simp; try omega)) _)) hf1)).mono ?_); rintro e w2 ⟨v2, rfl, ⟨vw2, vk2, vn2, vg2, vl2, rfl, hT⟩, hf2⟩; have hbr := hf2.held (w.heap.size + 1) HBR.out; obtain ⟨m2', n2', l2'⟩ := box_cells hbr; have HBR2 := Lib.hid hbr; have hba := hf2.held (w.heap.size) HBA.out; obtain ⟨m1', n1', l1'⟩ := box_cells hba; have HBA2 := Lib.hid hba; obtain ⟨⟨aw, cw, rfl⟩, ⟨ak, ck, rfl⟩, ⟨an, cn, rfl⟩, ⟨ag, cg, rfl⟩, ⟨al, cl, rfl⟩⟩ := hT.shapes; have HT := Lib.hid hT; clear hbr hba hT))
  have hF := (((((Fr.refl N0 w).alloc _).alloc _).alloc _).then0 hf1 |>.then0 hf2).alloc (.cells #[.int .u8 2, .int .u64 st, .int .u64 cm, .slice aw 0 cw, .slice ak ks.length ck, .slice an ns.length cn, .slice ag gs.length cg, .slice al ls.length cl, .bool fl] 32)
  have hbt : (w2.alloc (.cells #[.int .u8 2, .int .u64 st, .int .u64 cm, .slice aw 0 cw, .slice ak ks.length ck, .slice an ns.length cn, .slice ag gs.length cg, .slice al ls.length cl, .bool fl] 32)).heap[w.heap.size]? = _ := blk0 HBA2.out
  have hbr : (w2.alloc (.cells #[.int .u8 2, .int .u64 st, .int .u64 cm, .slice aw 0 cw, .slice ak ks.length ck, .slice an ns.length cn, .slice ag gs.length cg, .slice al ls.length cl, .bool fl] 32)).heap[w.heap.size + 1]? = _ := blk0 HBR2.out
  have hbx : (w2.alloc (.cells #[.int .u8 2, .int .u64 st, .int .u64 cm, .slice aw 0 cw, .slice ak ks.length ck, .slice an ns.length cn, .slice ag gs.length cg, .slice al ls.length cl, .bool fl] 32)).heap[w2.heap.size]? = _ := blkN rfl
  have hT := HT.out.fr0 ((Fr.refl N0 w2).alloc (.cells #[.int .u8 2, .int .u64 st, .int .u64 cm, .slice aw 0 cw, .slice ak ks.length ck, .slice an ns.length cn, .slice ag gs.length cg, .slice al ls.length cl, .bool fl] 32))
  have hsz := lt_of_block HBR2.out
  obtain ⟨W0, hW0⟩ : ∃ W, w2.alloc (.cells #[.int .u8 2, .int .u64 st, .int .u64 cm, .slice aw 0 cw, .slice ak ks.length ck, .slice an ns.length cn, .slice ag gs.length cg, .slice al ls.length cl, .bool fl] 32) = W := ⟨_, rfl⟩
  rw [hW0] at hbt hbr hbx hT hF ⊢
  obtain ⟨Bx, hBx⟩ : ∃ B, w2.heap.size = B := ⟨_, rfl⟩
  rw [hBx] at hbx hsz ⊢
  clear hW0 HC HO HBR HBA HBR2 HBA2 HT m1 n1 l1 m2 n2 l2 m1' n1' l1' m2' n2' l2' hf1 hf2 w1
  clear hBx w2
  obtain ⟨m0, n0, l0⟩ := box_cells hbt
  obtain ⟨m3, n3, l3⟩ := box_cells hbx
  have h0 : XB w W0 (w.heap.size + 1) Bx _ _ _ _ _ _ _ := ⟨hbr, hbx, hT, hF⟩
  have hX := (h0.set (dull_txn _ _ _ _ _ _ _ _ _ _ _ _ _ _ _ _ _ _ _) (by omega) (by omega) 0 (.int .u8 6)).set (dull_txn _ _ _ _ _ _ _ _ _ _ _ _ _ _ _ _ _ _ _) (by omega) (by omega) 2 (.int .u64 st)
  simp only [List.setIfInBounds_toArray, List.set_cons_zero, List.set_cons_succ] at hX
  have HX := Lib.hid hX; have HR := Lib.hid hbr
  clear hX h0 hbt hbr hbx hT hF
  obtain ⟨m2, n2, l2⟩ := box_cells HR.out
  go_region_law (fail)
  all_goals
    go_wp2
    (try simp only [Exit.inBlock, Exit.then])
  all_goals
    obtain ⟨hz, ht, hTx, hf0⟩ := HX.out
    refine bodyPost_ret_by (results_row3 rfl _ _ (w.heap.size + 1) 32 _ (0, 0) _ rfl (blkD (txn_box_set hz)) rfl rfl Tryz.underlying32 rfl sizeTxn) rfl ?_
    exact ((told_store (t := ⟨6, st, st, [], ks, ns, gs, ls, fl⟩) (by omega) hz (dull_txn _ _ _ _ _ _ _ _ _ _ _ _ _ _ _ _ _ _ _) ⟨_, _, _, _, _, rfl, ⟨hTx.ws, hTx.ks, hTx.ns, hTx.gs, hTx.ls, hTx.n0⟩⟩ (outs_nil _) hf0).drew).step
end Go.Proofs.YthidminepegnoaaGreatDoor
namespace Go.Proofs.YthidminepegnoaaGreatDoor
open Go.RowKit Go.Shelf Go.Maps Go.Sort
attribute [local go_sem] Oper.semAt_some
attribute [local irreducible] wpQuiet
set_option linter.unusedVariables false
set_option linter.unusedSimpArgs false

set_option maxRecDepth 100000 in
set_option maxHeartbeats 4000000 in
theorem xCommit_main (w : World) (v : Value) (t : Txn) (h : IsTxn w v t) (hv : Inv t) (bt : Nat) (vt : Value) (tbs : List Tb) (ht : Tbs w bt vt tbs) (hok : ∀ b ∈ tbs, b.ok) (hl : tbs.length ≤ 1000) (hp : t.phase = 2) (hw : t.writes ≠ []) :
    Calls Tryz.prog 27 #[v, vt] w fun e w' => StepPost w (sCommit t tbs).1 (if (sCommit t tbs).2 = 0 then again (sCommit t tbs).1 else []) (sCommit t tbs).2 e w' := by
  have hC := fun (W : World) (hf : Fr N0 w W) B hB => xcheck1 W v t (h.fr0 hf) hv B 2 (by decide) hB
  have hO := fun (W : World) (hf : Fr N0 w W) => xown_any W v t (h.fr0 hf) hv
  have herr : ∀ P, predsOf t.writes = P → ∀ i (hi : i < P.length), (∀ j (h : j < P.length), j < i → tabErr tbs P[j] = 0) → tabErr tbs P[i] ≠ 0 → sCommit t tbs = ({}, tabErr tbs P[i]) := by
    rintro P rfl i hi hn he; exact commit_err hp hw hi hn he
  have hokk : ∀ P, predsOf t.writes = P → (∀ j (h : j < P.length), tabErr tbs P[j] = 0) → sCommit t tbs = ({ t with phase := 3, needs := P.map (tabRt tbs), groups := groupsOf (P.map (tabRt tbs)), left := groupsOf (P.map (tabRt tbs)) }, 0) := by
    rintro P rfl hn; exact commit_ok hp hw hn
  have hic := fun hh => inv_commit (t := t) (tbs := tbs) hv hok hh
  have hA := fun (hh : (sCommit t tbs).2 = 0) W v (hq : IsTxn W v (sCommit t tbs).1) => xAgain_any W v _ hq (hic hh)
  have hst := hv.still (by omega) (by omega) (by omega)
  have hlf := hv.none_ (by omega) (by omega)
  have hpf := preds_few t.writes
  have hwf := hv.few
  have hmay := hv.may
  obtain ⟨i0, hi, hz0, hz1, hz2⟩ := info_parts infoRt
  obtain ⟨vw, vk, vn, vg, vl', rfl, h⟩ := h
  have hn0 := h.n0 hst.1
  subst hn0
  obtain ⟨bw, htw⟩ := h.ws
  have hpc := fun (W : World) (hf : Fr N0 w W) => preds_any W bw _ t.writes (htw.fr0 hf) (by omega) (fun x hx => may_small (hmay x hx))
  obtain ⟨⟨aw0, cw0, rfl⟩, ⟨ak0, ck0, rfl⟩, -, ⟨ag0, cg0, rfl⟩, ⟨al0, cl0, rfl⟩⟩ := h.shapes
  have ht' := ht
  obtain ⟨at2, ot2, ct2, rfl, t1, t2, t3, -, t5⟩ := ht'
  have HTB := Lib.hid t5; have HTT := Lib.hid ht
  obtain ⟨S, hS⟩ : ∃ S, sCommit t tbs = S := ⟨_, rfl⟩
  obtain ⟨O, hOO⟩ : ∃ O, (if S.2 = 0 then again S.1 else []) = O := ⟨_, rfl⟩
  rw [hS] at hic hA ⊢
  rw [hOO]
  simp only [hS] at herr hokk
  have HOO := Lib.hid hOO
  clear hOO
  clear h hv htw hS ht t5 hmay
  obtain ⟨ph, st, cm, ws, ks, ns, gs, ls, fl⟩ := t
  simp only at hC hO hp hw hst hlf hpf hwf hpc herr hokk hic hA ⊢
  simp only [if_pos hp] at hC
  obtain ⟨rfl, rfl⟩ := hst
  subst hp; subst hlf
  have hlen : 0 < ws.length := List.length_pos_iff.2 hw
  have hpe : normS (ws.map (·.pred)) = predsOf ws := rfl
  simp only [hpe] at hpc
  obtain ⟨P, hP⟩ : ∃ P, predsOf ws = P := ⟨_, rfl⟩
  simp only [hP] at hpc hpf
  replace herr := herr P hP
  replace hokk := hokk P hP
  have hl0 : ((ws.length : Int) == 0) = false := by simp; omega
  have HC := Lib.hid hC; have HO := Lib.hid hO; have HPC := Lib.hid hpc; have HERR := Lib.hid herr; have HOK := Lib.hid hokk; have HIC := Lib.hid hic; have HA := Lib.hid hA
  clear hC hO hpc herr hokk hic hP hw hpe hA
  go_enter Tryz.func27, Tryz.ntmps27
  go_wp2_with (first
    | (go_at_call 62; go_loud (refine (HC.out _ (by repeat (first | exact Fr.refl _ _ | assumption | refine Fr.alloc ?_ _ | refine Fr.drew ?_ | refine Fr.drewN ?_ _ | refine Fr.setCell ?_ (.inr (by simp; try omega)) _)) _ (cell_new1 _ _ _ _ (by simp))).mono ?_); rintro e w1 ⟨rfl, hf1⟩; have hba := hf1.held w.heap.size (blk0 (blk0 (blkN rfl))); obtain ⟨m1, n1, l1⟩ := box_cells hba; have hbr := hf1.held (w.heap.size + 1) (blk0 (blkN (by simp))); obtain ⟨m2, n2, l2⟩ := box_cells hbr; have HBR := Lib.hid hbr; have HBA := Lib.hid hba; have hf1w : Fr N0 w w1 := Fr.then0 (by repeat (first | exact Fr.refl _ _ | assumption | refine Fr.alloc ?_ _ | refine Fr.drew ?_ | refine Fr.drewN ?_ _ | refine Fr.setCell ?_ (.inr (by simp; try omega)) _)) hf1; clear hbr hba)
    | (go_at_call 65; go_loud (refine (HO.out _ hf1w).mono ?_); rintro e w2 ⟨v2, rfl, ⟨vw2, vk2, vn2, vg2, vl2, rfl, hT⟩, hf2⟩; have hbr := hf2.held (w.heap.size + 1) HBR.out; obtain ⟨m2', n2', l2'⟩ := box_cells hbr; have HBR2 := Lib.hid hbr; have hba := hf2.held (w.heap.size) HBA.out; obtain ⟨m1', n1', l1'⟩ := box_cells hba; have HBA2 := Lib.hid hba; have hn2 := hT.n0 rfl; subst hn2; obtain ⟨⟨aw, cw, rfl⟩, ⟨ak, ck, rfl⟩, -, ⟨ag, cg, rfl⟩, ⟨al, cl, rfl⟩⟩ := hT.shapes; have HT := Lib.hid hT; clear hbr hba hT)
    | (go_at_call 66; go_loud (refine (HPC.out _ ((hf1w.then0 hf2).alloc _)).mono ?_); rintro e w3 ⟨vp, bp, rfl, hsp, hf3⟩; obtain ⟨ap, cp, rfl⟩ := strs_form hsp))
  have hbx := hf3.held w2.heap.size (blkN rfl)
  have hbr3 := hf3.held (w.heap.size + 1) (blk0 HBR2.out)
  have hfw3 : Fr N0 w w3 := ((hf1w.then0 hf2).alloc _).then0 hf3
  have hT3 := HT.out.fr0 (((Fr.refl _ _).alloc _).then0 hf3)
  have hsz3 := hf3.size
  rw [World.size_alloc] at hsz3
  obtain ⟨X, hXe⟩ : ∃ X, w2.heap.size = X := ⟨_, rfl⟩
  rw [hXe] at hbx l2' hsz3 ⊢
  have hsp' := hsp
  obtain ⟨ap', op, cp', e3, s1, s2, s3, -, s5⟩ := hsp'
  simp only [Value.slice.injEq] at e3
  obtain ⟨rfl, -, rfl⟩ := e3
  have S5 := Lib.hid s5; have HBX := Lib.hid hbx; have HBR3 := Lib.hid hbr3; have HFW := Lib.hid hfw3; have HT3 := Lib.hid hT3
  clear m1 n1 l1 m2 n2 l2 m1' n1' l1' m2' n2' hf1 hf2 hf3 hf1w HBA HBR HBA2 HBR2 HC HO HPC hsp s5 hbx hbr3 hfw3 HT hT3
  clear hXe w1 w2
  go_loopw [34] (fun iv wr => ∃ (i : Nat) (ao : Option Addr) (co : Nat), i ≤ P.length ∧ iv = .int .i64 i ∧ Hid (∀ j (h : j < P.length), j < i → tabErr tbs P[j] = 0) ∧
      Hid (wr.heap[X]? = some (.cells #[.int .u8 2, .int .u64 st, .int .u64 cm, .slice aw ws.length cw, .slice ak ks.length ck, .slice ao i co, .slice ag 0 cg, .slice al 0 cl, .bool fl] 32 (0, 0))) ∧
      wr.ownsRow w3.heap.size 92 3 (.slice ao i co) i (((P.take i).map (tabRt tbs)).flatMap Rt.enc) ∧ Fr (fun b => b = X) w3 wr) (fun iv _ => P.length - (intOf iv).toNat)
  case atStart => exact ⟨0, none, 0, Nat.zero_le _, rfl, fun j h hj => by omega, HBX.out, World.ownsRow_nil _ _ _ _, Fr.refl _ _⟩
  case round =>
    obtain ⟨i, ao, co, hile, rfl, hgood, hbo, hrow, hfr⟩ := hrel
    have hwsz := hfr.size
    have hF : Fr N0 w wr := HFW.out.trans hfr fun q e => .inr (by rw [show q = X from e]; omega)
    have hbrr := (hfr.at (k := w.heap.size + 1) (by show ¬ w.heap.size + 1 = X; omega) (lt_of_block HBR3.out)).trans HBR3.out
    have HBRR := Lib.hid hbrr; have HF := Lib.hid hF
    clear hbrr hF
    by_cases hlt : i < P.length
    · obtain rfl := s3 (by omega)
      have hbpX : bp ≠ X := fun e => (dull_cell HBX.out (dull_txn _ _ _ _ _ _ _ _ _ _ _ _ _ _ _ _ _ _ _) (e ▸ S5.out i hlt)).1 _ rfl
      have hpi := hfr.cell (p := ⟨bp, op + i, none⟩) (show ¬ bp = X from hbpX) (S5.out i hlt)
      have herr := fun (hne : tabErr tbs P[i] ≠ 0) => HERR.out i hlt hgood.out hne
      have hgd : tabErr tbs P[i] = 0 → ∀ j (h : j < P.length), j < i + 1 → tabErr tbs P[j] = 0 := fun he j h hj => by
        rcases Nat.lt_or_ge j i with h' | h'
        · exact hgood.out j h h'
        · have : j = i := by omega
          subst this; exact he
      have hts := tab_take (tbs := tbs) hlt
      obtain ⟨p, hpe⟩ : ∃ p, P[i] = p := ⟨_, rfl⟩
      rw [hpe] at hpi herr hts hgd
      have hidx := tab_idx (tbs := tbs) (p := p)
      have hix : ∀ W B, Fr N0 w W → W.cell? ⟨B, 0, none⟩ = some (.string p) → Calls Tryz.prog 67 #[.slice at2 tbs.length ct2, .func (.func 68) #[] #[.pointer (some ⟨B, 0, none⟩)]] W fun e w' => e = .returned (.int .i64 (idxW tbs fun b => decide (b.pred = p))) ∧ Fr N0 W w' := fun W B hf hB =>
        idxFT_any W bt _ tbs (HTT.out.fr0 hf) (by omega) 68 _ _ (fun x hx W' hf' => xCommit1_any W' x B p (hf'.cell id hB)) (enters_of Tryz.func68 (by kernel_rfl) rfl)
      obtain ⟨K, hK⟩ : ∃ K, (idxW tbs fun b => decide (b.pred = p)) = K := ⟨_, rfl⟩
      rw [hK] at hidx
      simp only [hK] at hix
      have HER := Lib.hid herr; have HTS := Lib.hid hts; have HGD := Lib.hid hgd; have HROW := Lib.hid hrow; have HFR := Lib.hid hfr; have HIX := Lib.hid hix
      have hii : (i : Int) < (P.length : Int) := by omega
      have HBO := hbo
      clear herr hts hgd hrow hpe hgood hbo hix hK
      rcases hidx with ⟨rfl, h5⟩ | ⟨k, hk, rfl, e1, e2⟩
      · have hS := HER.out (by rw [h5]; decide)
        rw [h5] at hS
        have HS := Lib.hid hS
        clear hS h5
        go_wp2_with (go_at_call 67; go_loud (refine (HIX.out _ _ (HF.out.alloc _) (cell_new1 _ _ _ _ rfl)).mono ?_); rintro e w4 ⟨rfl, hf4⟩; have hbq := hf4.held X (blk0 HBO.out); obtain ⟨mb, nb, lb⟩ := box_cells hbq; have HBQ := Lib.hid hbq; have hrq := hf4.held (w.heap.size + 1) (blk0 HBRR.out); obtain ⟨mr, nr, lr⟩ := box_cells hrq; have HRQ := Lib.hid hrq; have HF4 := Lib.hid ((HF.out.alloc _).then0 hf4); have hpb := hf4.cell id (cell_new1 wr (.string p) 9 wr.heap.size rfl); clear hbq hrq)
        all_goals try (go_quiet (fail); go_wp2)
        all_goals try (go_quiet (fail); go_wp2)
        all_goals
                  (try simp only [Exit.inBlock, Exit.then])
                  obtain rfl := HS.out
                  obtain rfl : O = [] := by rw [← HOO.out]; exact if_neg (by decide)
                  first
                    | (refine bodyPost_ret_by (results_row3 rfl _ _ (w.heap.size + 1) 32 _ (0, 0) _ rfl (txn_box_set HRQ.out) rfl rfl Tryz.underlying32 rfl sizeTxn) rfl ?_; exact (told_nums (w := w) (W := w4) (by omega) HRQ.out HF4.out).step)
                    | (refine bodyPost_ret_by (results_row3 rfl _ _ (w.heap.size + 1) 32 _ (0, 0) _ rfl (txn_box_set (W := w4.drewN _) HRQ.out) rfl rfl Tryz.underlying32 rfl sizeTxn) rfl ?_; exact (told_nums (w := w) (W := w4.drewN _) (by omega) HRQ.out (HF4.out.drewN _)).step)
      · obtain rfl := t3 (by omega)
        have hc := HTB.out k hk
        obtain ⟨c0, c1, c2, c3, c4⟩ := tb_cells (W := w) hc
        obtain ⟨x, hx⟩ : ∃ x, tbs[k] = x := ⟨_, rfl⟩
        simp only [hx] at c0 c1 c2 c4 e1 e2
        clear hx hc c3 c0
        obtain ⟨xp, xg, xo, xa, xt⟩ := x
        simp only at c1 c2 c4 e1 e2
        have C1 := Lib.hid c1; have C2 := Lib.hid c2; have C4 := Lib.hid c4
        clear c1 c2 c4
        have hk0 : ¬ (k : Int) < 0 := by omega
        have hkl : (k : Int) < (tbs.length : Int) := by omega
        by_cases hbad : xg = 0 ∨ xt = 0
        · rw [if_pos hbad] at e1
          have hS := HER.out (by rw [e1]; decide)
          rw [e1] at hS
          have HS := Lib.hid hS
          have hcs : (xg == 0) = true ∨ (xg == 0) = false ∧ (xt == 0) = true := by
            by_cases h1 : xg = 0
            · exact .inl (by simpa using h1)
            · exact .inr ⟨by simpa using h1, by simpa using hbad.resolve_left h1⟩
          clear hS e1 e2 hbad
          rcases hcs with hg1 | ⟨hg1, hg2⟩
          all_goals
            go_wp2_with (go_at_call 67; go_loud (refine (HIX.out _ _ (HF.out.alloc _) (cell_new1 _ _ _ _ rfl)).mono ?_); rintro e w4 ⟨rfl, hf4⟩; have hbq := hf4.held X (blk0 HBO.out); obtain ⟨mb, nb, lb⟩ := box_cells hbq; have HBQ := Lib.hid hbq; have hrq := hf4.held (w.heap.size + 1) (blk0 HBRR.out); obtain ⟨mr, nr, lr⟩ := box_cells hrq; have HRQ := Lib.hid hrq; have HF4 := Lib.hid ((HF.out.alloc _).then0 hf4); have hpb := hf4.cell id (cell_new1 wr (.string p) 9 wr.heap.size rfl); clear hbq hrq; have c1 := ((HF.out.alloc _).then0 hf4).cell id C1.out; have c2 := ((HF.out.alloc _).then0 hf4).cell id C2.out; have c4 := ((HF.out.alloc _).then0 hf4).cell id C4.out)
            all_goals try (go_quiet (fail); go_wp2)
            all_goals try (go_quiet (fail); go_wp2)
            all_goals
                  (try simp only [Exit.inBlock, Exit.then])
                  obtain rfl := HS.out
                  obtain rfl : O = [] := by rw [← HOO.out]; exact if_neg (by decide)
                  first
                    | (refine bodyPost_ret_by (results_row3 rfl _ _ (w.heap.size + 1) 32 _ (0, 0) _ rfl (txn_box_set HRQ.out) rfl rfl Tryz.underlying32 rfl sizeTxn) rfl ?_; exact (told_nums (w := w) (W := w4) (by omega) HRQ.out HF4.out).step)
                    | (refine bodyPost_ret_by (results_row3 rfl _ _ (w.heap.size + 1) 32 _ (0, 0) _ rfl (txn_box_set (W := w4.drewN _) HRQ.out) rfl rfl Tryz.underlying32 rfl sizeTxn) rfl ?_; exact (told_nums (w := w) (W := w4.drewN _) (by omega) HRQ.out (HF4.out.drewN _)).step)
        · have hg1 : (xg == 0) = false := by simpa using fun h => hbad (.inl h)
          have hg2 : (xt == 0) = false := by simpa using fun h => hbad (.inr h)
          rw [if_neg hbad] at e1
          by_cases hto : xo = 0
          · have hg3 : (xo != 0) = false := by simpa using hto
            rw [if_neg (by simpa using hto)] at e1
            have HGD2 := Lib.hid (HGD.out e1)
            have hts := HTS.out
            rw [e2] at hts
            have HTS2 := Lib.hid hts
            have hnb : (Value.slice ao i co).ownBlock ≠ some X := fun e => by have h1 := (HROW.out.lt _ e).1; omega
            have HNB := Lib.hid hnb
            have hPl : P.length ≤ 256 := by omega
            clear hnb e1 e2 hbad hts hto
            go_wp2_with (go_at_call 67; go_loud (refine (HIX.out _ _ (HF.out.alloc _) (cell_new1 _ _ _ _ rfl)).mono ?_); rintro e w4 ⟨rfl, hf4⟩; have hbq := hf4.held X (blk0 HBO.out); obtain ⟨mb, nb, lb⟩ := box_cells hbq; have HBQ := Lib.hid hbq; have hrq := hf4.held (w.heap.size + 1) (blk0 HBRR.out); obtain ⟨mr, nr, lr⟩ := box_cells hrq; have HRQ := Lib.hid hrq; have HF4 := Lib.hid ((HF.out.alloc _).then0 hf4); have hpb := hf4.cell id (cell_new1 wr (.string p) 9 wr.heap.size rfl); clear hbq hrq; have c1 := ((HF.out.alloc _).then0 hf4).cell id C1.out; have c2 := ((HF.out.alloc _).then0 hf4).cell id C2.out; have c4 := ((HF.out.alloc _).then0 hf4).cell id C4.out)
            all_goals try (go_quiet (fail); go_wp2)
            all_goals try (go_quiet (fail); go_wp2)
            have hA4 : Fr N0 wr w4 := ((Fr.refl _ _).alloc _).then0 hf4
            have HR4 := Lib.hid (HROW.out.frT hA4 fun _ _ => id)
            have HA4 := Lib.hid hA4
            have hsz4 := hA4.size
            clear hA4 hf4
            go_region_law (refine step_append_lies _ rfl _ _ 29 rfl (w3.heap.size) 92 i0 zeroRtV 3 32 Tryz.underlying29 hi hz0 hz1 hz2 rfl (by decide) (.slice ao i co) (i) _ (by simp [Act.eval, Act.put]) (HR4.out.alloc _) ⟨w4.heap.size, 0, none⟩ 1 1 ([.string p, .int .u32 xg, .int .u64 xt]) (by simp [Act.eval, Act.put]) rfl (World.news_of_block (cs := ([.string p, .int .u32 xg, .int .u64 xt]).toArray) (t := 92) (fr := (0, 0)) (heap_alloc_new _ _)) (by simp [Value.oneCell']) (by omega) (by unfold maxLen; omega) (by omega) (by simp; omega) (w4.heap.size + 1) (by simp) ?_; intro g gc w5 hown hgrow hfresh hlt1; have hbw := (hgrow.block X (by simp; omega) (fun e => HNB.out e.symm)).trans ((Below.heap_alloc _ _ _ lb).trans HBQ.out); obtain ⟨m7, n7, hl7⟩ := box_cells hbw; have HBW := Lib.hid hbw; clear hbw)
            all_goals
              go_wp2
              go_roundw
              case rel =>
                have hbs := box_set (i := 5) (v := .slice (some ⟨g, 0, none⟩) (i + 1) gc) HBW.out
                simp only [List.setIfInBounds_toArray, List.set_cons_zero, List.set_cons_succ] at hbs
                refine ⟨i + 1, some ⟨g, 0, none⟩, gc, by omega, by go_num, HGD2.out, hbs, ?_, ?_⟩
                · rw [HTS2.out]
                  exact ownsRow_same hown fun q e => heap_setCell_other _ _ _ _ (by have h1 := (hown.lt q e).1; show q ≠ X; omega)
                · exact (((HFR.out.then0 HA4.out).alloc _).drew.grown hgrow fun q e => .inr (by have h1 := (HROW.out.lt q e).1; omega)).setCell (p := ⟨X, 5, none⟩) (.inl rfl) _
              case measure => simp [intOf]; omega
          · have hg3 : (xo != 0) = true := by simpa using hto
            rw [if_pos (by simpa using hto)] at e1
            have hS := HER.out (by rw [e1]; decide)
            rw [e1] at hS
            have HS := Lib.hid hS
            clear hS e1 e2 hbad hto
            go_wp2_with (go_at_call 67; go_loud (refine (HIX.out _ _ (HF.out.alloc _) (cell_new1 _ _ _ _ rfl)).mono ?_); rintro e w4 ⟨rfl, hf4⟩; have hbq := hf4.held X (blk0 HBO.out); obtain ⟨mb, nb, lb⟩ := box_cells hbq; have HBQ := Lib.hid hbq; have hrq := hf4.held (w.heap.size + 1) (blk0 HBRR.out); obtain ⟨mr, nr, lr⟩ := box_cells hrq; have HRQ := Lib.hid hrq; have HF4 := Lib.hid ((HF.out.alloc _).then0 hf4); have hpb := hf4.cell id (cell_new1 wr (.string p) 9 wr.heap.size rfl); clear hbq hrq; have c1 := ((HF.out.alloc _).then0 hf4).cell id C1.out; have c2 := ((HF.out.alloc _).then0 hf4).cell id C2.out; have c4 := ((HF.out.alloc _).then0 hf4).cell id C4.out)
            all_goals try (go_quiet (fail); go_wp2)
            all_goals try (go_quiet (fail); go_wp2)
            all_goals
                  (try simp only [Exit.inBlock, Exit.then])
                  obtain rfl := HS.out
                  obtain rfl : O = [] := by rw [← HOO.out]; exact if_neg (by decide)
                  first
                    | (refine bodyPost_ret_by (results_row3 rfl _ _ (w.heap.size + 1) 32 _ (0, 0) _ rfl (txn_box_set HRQ.out) rfl rfl Tryz.underlying32 rfl sizeTxn) rfl ?_; exact (told_nums (w := w) (W := w4) (by omega) HRQ.out HF4.out).step)
                    | (refine bodyPost_ret_by (results_row3 rfl _ _ (w.heap.size + 1) 32 _ (0, 0) _ rfl (txn_box_set (W := w4.drewN _) HRQ.out) rfl rfl Tryz.underlying32 rfl sizeTxn) rfl ?_; exact (told_nums (w := w) (W := w4.drewN _) (by omega) HRQ.out (HF4.out.drewN _)).step)
    · obtain rfl : i = P.length := by omega
      have hS := HOK.out (fun j h => hgood.out j h h)
      have hinv := HIC.out (by rw [hS])
      have hA := HA.out (by rw [hS])
      clear HA
      have hO : O = again S.1 := by rw [← HOO.out]; exact if_pos (by rw [hS])
      rw [hS] at hinv hA
      have hne := (hinv.moving (.inl rfl)).some_
      have hrt := hinv.rts
      simp only at hne hrt hA
      have hnl : (P.map (tabRt tbs)).length = P.length := by simp
      rw [List.take_length, ← hnl] at hrow
      obtain ⟨bb, hbb, hrows⟩ := rowsK_of_row (enc := Rt.enc) (n := 3) (fun _ => rfl) (by decide) hrow
      rw [hnl] at hrows
      obtain ⟨N, hN⟩ : ∃ N, P.map (tabRt tbs) = N := ⟨_, rfl⟩
      simp only [hN] at hrows hnl hne hrt hA hS
      have HS := Lib.hid hS; have HO := Lib.hid hO
      have hT := HT3.out.past HBX.out (dull_txn _ _ _ _ _ _ _ _ _ _ _ _ _ _ _ _ _ _ _) hfr
      have hdl := fun (ph : Int) (nl : Nat) (gx lx : Option Addr) (gn ln gc lc : Nat) => dull_txn ph st cm aw ak ao gx lx ws.length ks.length nl gn ln cw ck co gc lc fl
      have h0 : XB w wr (w.heap.size + 1) X #[.int .u8 2, .int .u64 st, .int .u64 cm, .slice aw ws.length cw, .slice ak ks.length ck, .slice ao P.length co, .slice ag 0 cg, .slice al 0 cl, .bool fl] (.slice aw ws.length cw) (.slice ak ks.length ck) (.slice ao P.length co) (.slice ag 0 cg) (.slice al 0 cl) ⟨3, st, cm, ws, ks, N, [], [], fl⟩ :=
        ⟨HBRR.out, hbo.out, ⟨hT.ws, hT.ks, ⟨bb, hrows⟩, hT.gs, hT.ls, fun e => by rw [show N = [] from e] at hne; simp at hne⟩, HF.out⟩
      obtain ⟨mx, nx, lx⟩ := box_cells hbo.out
      obtain ⟨my, ny, ly⟩ := box_cells HBRR.out
      have hgr := fun (W : World) (hf : Fr N0 wr W) => xgroups_any W bb _ N (Rts.fr0 hrows hf) (by omega) (fun r hr => (hrt r hr).1)
      have HGR := Lib.hid hgr; have H0 := Lib.hid h0; have HDL := Lib.hid hdl; have HA := Lib.hid hA
      clear hgr h0 hdl hrows hrow hT hinv hrt hN hne hgood hS hO hA HOK HERR HOO HBX HT3 hfr hbo HBRR S5
      go_wp2
      go_region_law (first
        | (go_simp; go_at_call 69; have hq := hf5; (refine (HGR.out _ (HF5.out.then0 (by repeat (first | exact Fr.refl _ _ | assumption | refine Fr.alloc ?_ _ | refine Fr.drew ?_ | refine Fr.drewN ?_ _ | refine Fr.setCell ?_ (.inr (by simp; try omega)) _)))).mono ?_); rintro e w6 ⟨vG2, bG2, rfl, hG2, hf6⟩; obtain ⟨aG2, cG2, rfl⟩ := ints_form hG2; have hx6 := hf6.held X HX5.out; have hz6 := hf6.held (w.heap.size + 1) HZ5.out; obtain ⟨m6, n6, l6⟩ := box_cells hx6; obtain ⟨m6', n6', l6'⟩ := box_cells hz6; have HX6 := Lib.hid hx6; have HZ6 := Lib.hid hz6; have HG2 := Lib.hid hG2; clear hx6 hz6 hG2)
        | (go_simp; go_at_call 69; (refine (HGR.out _ (by repeat (first | exact Fr.refl _ _ | assumption | refine Fr.alloc ?_ _ | refine Fr.drew ?_ | refine Fr.drewN ?_ _ | refine Fr.setCell ?_ (.inr (by simp; try omega)) _))).mono ?_); rintro e w5 ⟨vG1, bG1, rfl, hG1, hf5⟩; obtain ⟨aG1, cG1, rfl⟩ := ints_form hG1; have hx5 := hf5.held X H0.out.2.1; have hz5 := hf5.held (w.heap.size + 1) H0.out.1; obtain ⟨m5, n5, l5⟩ := box_cells hx5; have hF5 : Fr N0 wr w5 := Fr.then0 (by repeat (first | exact Fr.refl _ _ | assumption | refine Fr.alloc ?_ _ | refine Fr.drew ?_ | refine Fr.drewN ?_ _ | refine Fr.setCell ?_ (.inr (by simp; try omega)) _)) hf5; have HF5 := Lib.hid hF5; clear hF5; have HX5 := Lib.hid hx5; have HZ5 := Lib.hid hz5; have HG1 := Lib.hid hG1; clear hx5 hz5 hG1))
      all_goals
        have hF6 : Fr N0 wr w6 := HF5.out.then0 hf6
        have h6 : XB w w6 (w.heap.size + 1) X _ _ _ _ _ _ _ := ⟨HZ6.out, HX6.out, H0.out.2.2.1.fr0 hF6, H0.out.2.2.2.then0 hF6⟩
        have hX7 := h6.set (HDL.out _ _ _ _ _ _ _ _) (by omega) (by omega) 0 (.int .u8 3)
        simp only [List.setIfInBounds_toArray, List.set_cons_zero, List.set_cons_succ] at hX7
        replace hX7 := hX7.set (HDL.out _ _ _ _ _ _ _ _) (by omega) (by omega) 6 (.slice aG1 (groupsOf N).length cG1)
        simp only [List.setIfInBounds_toArray, List.set_cons_zero, List.set_cons_succ] at hX7
        replace hX7 := hX7.set (HDL.out _ _ _ _ _ _ _ _) (by omega) (by omega) 7 (.slice aG2 (groupsOf N).length cG2)
        simp only [List.setIfInBounds_toArray, List.set_cons_zero, List.set_cons_succ] at hX7
        have hfx : Fr (fun k => k = X) w6 (((w6.setCell ⟨X, 0, none⟩ (.int .u8 3)).setCell ⟨X, 6, none⟩ (.slice aG1 (groupsOf N).length cG1)).setCell ⟨X, 7, none⟩ (.slice aG2 (groupsOf N).length cG2)) := ((((Fr.refl (fun k => k = X) w6).setCell (p := ⟨X, 0, none⟩) (.inl rfl) _).setCell (p := ⟨X, 6, none⟩) (.inl rfl) _).setCell (p := ⟨X, 7, none⟩) (.inl rfl) _)
        have hg1 := ints_past (HG1.out.fr0 hf6) HX6.out (HDL.out _ _ _ _ _ _ _ _) hfx
        have hg2 := ints_past HG2.out HX6.out (HDL.out _ _ _ _ _ _ _ _) hfx
        obtain ⟨hz, ht, hTx, hf0⟩ := hX7
        have hT : IsTxn (((w6.setCell ⟨X, 0, none⟩ (.int .u8 3)).setCell ⟨X, 6, none⟩ (.slice aG1 (groupsOf N).length cG1)).setCell ⟨X, 7, none⟩ (.slice aG2 (groupsOf N).length cG2)) (.agg #[.int .u8 3, .int .u64 st, .int .u64 cm, .slice aw ws.length cw, .slice ak ks.length ck, .slice ao P.length co, .slice aG1 (groupsOf N).length cG1, .slice aG2 (groupsOf N).length cG2, .bool fl]) ⟨3, st, cm, ws, ks, N, groupsOf N, groupsOf N, fl⟩ := ⟨_, _, _, _, _, rfl, ⟨hTx.ws, hTx.ks, hTx.ns, ⟨bG1, hg1⟩, ⟨bG2, hg2⟩, hTx.n0⟩⟩
        obtain ⟨W0, hW0⟩ : ∃ W, (((w6.setCell ⟨X, 0, none⟩ (.int .u8 3)).setCell ⟨X, 6, none⟩ (.slice aG1 (groupsOf N).length cG1)).setCell ⟨X, 7, none⟩ (.slice aG2 (groupsOf N).length cG2)) = W := ⟨_, rfl⟩
        rw [hW0] at hz ht hT hf0 ⊢
        obtain rfl := HO.out
        obtain rfl := HS.out
        clear hW0 hfx hg1 hg2 hTx h6 hF6 HF5 HG1 HG2 HX5 HX6 HZ5 HZ6 H0 HDL HGR hf5 hf6 m5 n5 l5 m6 n6 l6 m6' n6' l6' mx nx lx my ny ly HF
        clear hq
        clear w6 w5
        go_wp2
        obtain ⟨m0, n0, l0⟩ := box_cells hz
        obtain ⟨m1, n1, l1⟩ := box_cells ht
        have HZ := Lib.hid hz; have HX := Lib.hid ht; have HT := Lib.hid hT
        clear hz ht hT
        refine Code.wp_mono (Q := Exit.then (Back w (w.heap.size + 1) 4 5 6 #[.int .u8 3, .int .u64 st, .int .u64 cm, .slice aw ws.length cw, .slice ak ks.length ck, .slice ao P.length co, .slice aG1 (groupsOf N).length cG1, .slice aG2 (groupsOf N).length cG2, .bool fl] ⟨3, st, cm, ws, ks, N, groupsOf N, groupsOf N, fl⟩ (again ⟨3, st, cm, ws, ks, N, groupsOf N, groupsOf N, fl⟩) 0) (fun _ _ _ => False)) ?_ ?_
        case refine_2 =>
          go_region_with (go_at_call 18; go_loud (refine (HA.out _ _ (HT.out.fr0 (Fr.refl _ _).drew)).mono ?_); rintro e w3 ⟨vo, rfl, ho, hf3⟩; have hz1 := hf3.held (w.heap.size + 1) HZ.out; obtain ⟨p0, q0, k0⟩ := box_cells hz1; have ht1 := hf3.held (X) HX.out; obtain ⟨p1, q1, k1⟩ := box_cells ht1)
          all_goals exact ⟨vo, rfl, rfl, rfl, rfl, told_store (by omega) hz1 (dull_txn _ _ _ _ _ _ _ _ _ _ _ _ _ _ _ _ _ _ _) (HT.out.fr0 ((Fr.refl _ _).drew.then0 hf3)) ho (hf0.drew.then0 hf3)⟩
        intro e a' W hM
        cases e
        case' normal => skip
        all_goals (try exact (hM : False).elim)
        obtain ⟨vo, d1, d2, d3, d4, hM⟩ := hM
        clear HZ HX HT m0 n0 m1 n1 l0 l1 HA
        go_wp2
        (try simp only [Exit.inBlock, Exit.then])
        exact bodyPost_ret_by (results_row3 rfl _ _ (w.heap.size + 1) 32 _ (0, 0) _ d2 hM.1 d3 d4 Tryz.underlying32 rfl sizeTxn) d1 hM.step

theorem xCommit_any (w : World) (v : Value) (t : Txn) (h : IsTxn w v t) (hv : Inv t) (bt : Nat) (vt : Value) (tbs : List Tb) (ht : Tbs w bt vt tbs) (hok : ∀ b ∈ tbs, b.ok) (hl : tbs.length ≤ 1000) :
    Calls Tryz.prog 27 #[v, vt] w fun e w' => StepPost w (sCommit t tbs).1 (if (sCommit t tbs).2 = 0 then again (sCommit t tbs).1 else []) (sCommit t tbs).2 e w' := by
  by_cases hp : t.phase = 2
  · by_cases hw : t.writes = []
    · have := xCommit_read w v t h hv bt vt tbs ht hp hw
      rw [show sCommit t tbs = ({ t with phase := 6, commit := t.start }, 0) by rw [sCommit, if_neg (by omega), if_pos hw]]
      exact this
    · exact xCommit_main w v t h hv bt vt tbs ht hok hl hp hw
  · have := xCommit_no w v t h hv bt vt tbs ht hp
    rw [show sCommit t tbs = ({}, 3) by rw [sCommit, if_pos hp]]
    exact this
end Go.Proofs.YthidminepegnoaaGreatDoor
