/- final: a commit, whole. final, whole. -/
import Derived.Test.YtefepfiijoafbaaGreatQSFinD
namespace Go.Proofs.YtefepfiijoafbaaGreat
open Go.RowKit Go.Shelf Go.Maps
attribute [local go_sem] Oper.semAt_some
attribute [local irreducible] wpQuiet
set_option linter.unusedVariables false
set_option linter.unusedSimpArgs false

theorem once_length : ∀ l : List (List UInt8), (once l).length ≤ l.length
  | [] => Nat.le_refl _
  | x :: l => by
    have := once_length l
    unfold once
    split
    · simp; omega
    · simp; omega
set_option maxRecDepth 100000 in
set_option maxHeartbeats 8000000 in
theorem finC3 {K : Act → World → Prop} {Q : Exit → Act → World → Prop} (W : World) (f : Nat → Value) (R : Nat → Prop) (t : StB) (m : StM) (s : SS) (N : Nat) (h : StAt W R t m s N) (hR : ∀ k, R k → k < W.heap.size) (hF : s.Fine N) (hN : N ≤ 100000) (o : Op) (V : OpS) (ho : o.wf) (B : Nat) (hB : W.heap[B]? = some (.cells (opEnc o V).toArray 38 (0, 0))) (hBR : ¬ R B) (w : List Wr) (hw : s.staged o.start = some w) (hcm : o.commit ≠ 0)
    (h0 : f 0 = .pointer (some ⟨t.p, 0, none⟩)) (h3 : f 3 = .pointer (some ⟨B, 0, none⟩)) (h7 : f 7 = m.sv o.start) (h8 : f 8 = .bool true)
    (hQ : ∀ f' W' e, f' 4 = .int .i64 e → e = finErr predsOf s w o.commit → e ≠ 0 → Fr N0 W W' → Q .ret (frA 117 f') W')
    (hK : ∀ (f' : Nat → Value) (W' : World) (R' : Nat → Prop) (t' : StB) (m' : StM), f' 0 = .pointer (some ⟨t.p, 0, none⟩) → f' 3 = .pointer (some ⟨B, 0, none⟩) → finErr predsOf s w o.commit = 0 → t'.p = t.p → StAt W' R' t' m' (sAft s w o.commit (predsOf w)) N → (∀ k, R' k → k = t.p ∨ W.heap.size ≤ k) → Fr (fun j => j = t.p) W W' → K (frA 117 f') W') :
    Code.wp Tryz.prog (lvFst (finB 3)) (Exit.then K Q) (frA 117 f) W := by
  obtain ⟨hw1, hw2, hw3⟩ := hF.staged _ _ hw
  obtain ⟨g1, g2⟩ := h.staged _ _ hw
  have hwr := g1
  obtain ⟨wa, woff, wc, hsv, -, -, -, -, -⟩ := g1
  rw [hsv] at hwr h7
  have hpl : ∀ x ∈ w, x.pred.size ≤ maxLen := fun x hx => by have := predOk_size (trMay_pred (hw3 x hx).2); unfold maxLen; omega
  have hpreds := preds_any W (m.sb o.start) _ w hwr (by omega) hpl
  have hP64 : ∀ q ∈ predsOf w, q.size ≤ 64 := fun q hq => by
    obtain ⟨y, hy, rfl⟩ := List.mem_map.1 (normS_mem.1 hq)
    exact (predOk_size (trMay_pred (hw3 y hy).2)).2
  have hPn : (predsOf w).length ≤ 1000 := by
    have h2 : (predsOf w).length ≤ w.length := by
      unfold predsOf normS normL
      rw [List.length_map, List.length_mergeSort]
      refine Nat.le_trans (once_length _) ?_
      simp
    omega
  have hPd : (predsOf w).Nodup := normS_nodup _
  have hE5 : (∃ q ∈ predsOf w, s.lists q = none) → finErr predsOf s w o.commit = 5 := fun hq => by unfold finErr; rw [if_pos hq]
  have hEk : (∀ q ∈ predsOf w, s.lists q ≠ none) → finErr predsOf s w o.commit = firstNZ ((predsOf w).map fun p => ((s.lists p).map fun l => addErr l ⟨o.commit, ownW w p⟩).getD 0) := fun hq => by
    unfold finErr; rw [if_neg (fun ⟨q, h1, h2⟩ => hq q h1 h2)]
  change Calls Tryz.prog 185 #[.slice wa w.length wc] W (fun e w' => ∃ v' bb, e = .returned v' ∧ Strs w' bb v' (predsOf w) ∧ Fr N0 W w') at hpreds
  obtain ⟨P, hP⟩ : ∃ P, predsOf w = P := ⟨_, rfl⟩
  rw [hP] at hpreds hP64 hPn hPd hK
  simp only [hP] at hE5 hEk
  obtain ⟨m1, n1, l1⟩ := box_cells hB
  obtain ⟨z1, z2, z3, z4⟩ := h.lt
  have hcp := fun W' (hf : Fr N0 W W') => sCopy_any W' R t.p s N ⟨t, m, rfl, h.fr hf fun _ _ => id⟩ hF hN
  have hl1 := fun (W' : World) (hf : Fr N0 W W') {K' : Act → World → Prop} {Q' : Exit → Act → World → Prop} f' bb a cap hS => finLoop1 (K := K') (Q := Q') W' f' R t m s N (h.fr hf fun _ _ => id) P bb a cap hS hP64 hPn
  have hl2 := fun (W0 W' : World) (p' : Nat) (hz0 : W.heap.size ≤ W0.heap.size) (hf : Fr N0 W W') (hst : IsState W' (fun k => W0.heap.size ≤ k) p' s N) => (show ∃ (t2 : StB) (m2 : StM), t2.p = p' ∧ StAt W' (fun k => W0.heap.size ≤ k ∧ k < W'.heap.size) t2 m2 s N from by
    obtain ⟨t2, m2, e, h2⟩ := hst.bound; exact ⟨t2, m2, e, h2⟩)
  have hcz : (o.commit != 0) = true := by simpa using hcm
  have HPR := Lib.hid hpreds; have HCP := Lib.hid hcp; have HL2 := Lib.hid hl2; have HB := Lib.hid hB; have HQ := Lib.hid hQ; have HK := Lib.hid hK; have HH := Lib.hid h; have HWR := Lib.hid hwr; have HE5 := Lib.hid hE5; have HEK := Lib.hid hEk
  have HF := Lib.hid hF; have HO := Lib.hid ho; have HG2 := Lib.hid g2; have HBR := Lib.hid hBR; have HRW := Lib.hid hR; have HW3 := Lib.hid hw3; have HP64 := Lib.hid hP64; have HPD := Lib.hid hPd
  have H0 := Lib.hid h0; have H3 := Lib.hid h3
  rw [opCells_eq] at m1
  clear hpreds hcp hl2 hB hQ hK h hwr hE5 hEk hF g2 hBR hR hw3 hP64 hPd hsv hw hP hpl hl1
  show Code.wp _ _ _ { tmps := #[f 0, f 1, f 2, f 3, f 4, f 5, f 6, f 7, f 8, f 9, f 10, f 11, f 12, f 13, f 14, f 15, f 16, f 17, f 18, f 19, f 20, f 21, f 22, f 23, f 24, f 25, f 26, f 27, f 28, f 29, f 30, f 31, f 32, f 33, f 34, f 35, f 36, f 37, f 38, f 39, f 40, f 41, f 42, f 43, f 44, f 45, f 46, f 47, f 48, f 49, f 50, f 51, f 52, f 53, f 54, f 55, f 56, f 57, f 58, f 59, f 60, f 61, f 62, f 63, f 64, f 65, f 66, f 67, f 68, f 69, f 70, f 71, f 72, f 73, f 74, f 75, f 76, f 77, f 78, f 79, f 80, f 81, f 82, f 83, f 84, f 85, f 86, f 87, f 88, f 89, f 90, f 91, f 92, f 93, f 94, f 95, f 96, f 97, f 98, f 99, f 100, f 101, f 102, f 103, f 104, f 105, f 106, f 107, f 108, f 109, f 110, f 111, f 112, f 113, f 114, f 115, f 116], defers := [] } _
  rw [h0, h3, h7, h8]
  clear h0 h3 h7 h8
  conv => arg 2; whnf
  go_wp2_with fail
  refine HPR.out.mono ?_
  rintro e W1 ⟨vP, bb, rfl, hPs, hf1⟩
  have hPs0 := hPs
  obtain ⟨pa, poff, pcap, rfl, -⟩ := hPs0
  have HPS := Lib.hid hPs; have HF1 := Lib.hid hf1
  clear hPs hf1
  go_wp2_with fail
  rename_i Kx hKx
  refine wp_frA _ rfl ?_
  clear H0 H3
  refine finLoop1 (K := Kx) (Q := Exit.then K Q) W1 _ R t m s N (HH.out.fr HF1.out fun _ _ => id) P bb pa pcap HPS.out HP64.out hPn rfl rfl rfl rfl (fun f' e4 hex => ?_) (fun f1 a0 a3 a7 a9 hall => ?_)
  · exact HQ.out f' W1 5 e4 (HE5.out hex).symm (by decide) HF1.out
  have HALL := Lib.hid hall
  have HKX := Lib.hid hKx
  clear hall hKx
  refine HKX.out _ _ ?_
  replace a0 : f1 0 = .pointer (some ⟨t.p, 0, none⟩) := a0
  replace a3 : f1 3 = .pointer (some ⟨B, 0, none⟩) := a3
  replace a7 : f1 7 = .slice wa w.length wc := a7
  replace a9 : f1 9 = .slice pa P.length pcap := a9
  clear f
  obtain ⟨f, hf⟩ : ∃ f, f1 = f := ⟨_, rfl⟩
  rw [hf] at a0 a3 a7 a9 ⊢
  clear hf
  show Code.wp _ _ _ { tmps := #[f 0, f 1, f 2, f 3, f 4, f 5, f 6, f 7, f 8, f 9, f 10, f 11, f 12, f 13, f 14, f 15, f 16, f 17, f 18, f 19, f 20, f 21, f 22, f 23, f 24, f 25, f 26, f 27, f 28, f 29, f 30, f 31, f 32, f 33, f 34, f 35, f 36, f 37, f 38, f 39, f 40, f 41, f 42, f 43, f 44, f 45, f 46, f 47, f 48, f 49, f 50, f 51, f 52, f 53, f 54, f 55, f 56, f 57, f 58, f 59, f 60, f 61, f 62, f 63, f 64, f 65, f 66, f 67, f 68, f 69, f 70, f 71, f 72, f 73, f 74, f 75, f 76, f 77, f 78, f 79, f 80, f 81, f 82, f 83, f 84, f 85, f 86, f 87, f 88, f 89, f 90, f 91, f 92, f 93, f 94, f 95, f 96, f 97, f 98, f 99, f 100, f 101, f 102, f 103, f 104, f 105, f 106, f 107, f 108, f 109, f 110, f 111, f 112, f 113, f 114, f 115, f 116], defers := [] } _
  rw [a0, a3, a7, a9]
  clear a0 a3 a7 a9
  go_wp2_with fail
  refine (HCP.out W1 HF1.out).mono ?_
  rintro e W2 ⟨p', rfl, hIS, hf2⟩
  have hz1 := HF1.out.size
  have hz2 := hf2.size
  obtain ⟨t2, m2, rfl, hst2⟩ := HL2.out W1 W2 p' hz1 (HF1.out.then0 hf2) hIS
  have HST2 := Lib.hid hst2; have HF2 := Lib.hid hf2
  clear hIS hst2 hf2
  go_wp2_with fail
  rename_i Kx2 hKx2
  have HKX2 := Lib.hid hKx2
  clear hKx2
  refine wp_frA _ rfl ?_
  have hfW2 := HF1.out.then0 HF2.out
  refine finLoop2 (K := Kx2) (Q := Exit.then K Q) W2 _ (fun k => W1.heap.size ≤ k ∧ k < W2.heap.size) t2 m2 s N HST2.out (fun k h => h.2) HF.out hN P bb pa pcap (HPS.out.fr0 HF2.out) (fun hpos hh => ?_) HP64.out hPn HPD.out HALL.out o V HO.out B ((hfW2.at id l1).trans HB.out) (fun hh => ?_) w (m.sb o.start) wa wc (HWR.out.fr0 hfW2) (fun hpos hh => ?_) hw2 (fun x hx => (HW3.out x hx).1) rfl rfl rfl rfl rfl rfl (fun f' W' k e e4 hk hz he he0 hfr => ?_) (fun f' W3 R' m' b0 b3 b14 hz hst3 hR' hf3 => ?_)
  · obtain ⟨a', off', cap', -, -, -, -, -, g⟩ := HPS.out
    have := lt_of_cell (g 0 hpos)
    have h1 : W1.heap.size ≤ bb := hh.1
    have h2 : bb < W1.heap.size := this
    omega
  · have := hh.1; omega
  · have h1 := wrs_lt HWR.out hpos
    have := hh.1; omega
  · refine HQ.out f' W' e e4 ?_ he0 (hfW2.trans hfr fun k hk => .inr (by have := hk.1; omega))
    rw [HEK.out HALL.out, firstNZ_at (k := k) (by simpa using hk) (fun j hj hjk => by simpa using hz j (by simpa using hj) hjk) (by simpa [he] using he0)]
    simpa using he.symm
  · refine HKX2.out _ _ ?_
    have hE0 : finErr predsOf s w o.commit = 0 := by
      rw [HEK.out HALL.out]
      exact firstNZ_none fun y hy => by
        obtain ⟨x, hx, rfl⟩ := List.mem_map.1 hy
        obtain ⟨j, hj, rfl⟩ := List.mem_iff_getElem.1 hx
        exact hz j hj
    have hz3 := hf3.size
    have hfW3 : Fr N0 W W3 := hfW2.trans hf3 fun k hk => .inr (by have := hk.1; omega)
    have hRW : ∀ k, R' k → W.heap.size ≤ k := fun k hk => by
      rcases (hR' k hk).1 with h | h
      · have := h.1; omega
      · omega
    have hbec := sBecome_any W3 t.p t2.p true t.mL t.mS t.mF ((hfW3.at id z1).trans HH.out.cells) true t2.mL t2.mS t2.mF hst3.cells (fun e => by have := hRW _ hst3.inR.1; omega)
    have HBEC := Lib.hid hbec; have HE0 := Lib.hid hE0; have HST3 := Lib.hid hst3; have HRW2 := Lib.hid hRW; have HFW3 := Lib.hid hfW3
    clear hbec hE0 hst3 hRW hfW3 hz hR'
    replace b0 : f' 0 = .pointer (some ⟨t.p, 0, none⟩) := b0
    replace b3 : f' 3 = .pointer (some ⟨B, 0, none⟩) := b3
    replace b14 : f' 14 = .pointer (some ⟨t2.p, 0, none⟩) := b14
    clear f
    obtain ⟨f, hf⟩ : ∃ f, f' = f := ⟨_, rfl⟩
    rw [hf] at b0 b3 b14 ⊢
    clear hf
    show Code.wp _ _ _ { tmps := #[f 0, f 1, f 2, f 3, f 4, f 5, f 6, f 7, f 8, f 9, f 10, f 11, f 12, f 13, f 14, f 15, f 16, f 17, f 18, f 19, f 20, f 21, f 22, f 23, f 24, f 25, f 26, f 27, f 28, f 29, f 30, f 31, f 32, f 33, f 34, f 35, f 36, f 37, f 38, f 39, f 40, f 41, f 42, f 43, f 44, f 45, f 46, f 47, f 48, f 49, f 50, f 51, f 52, f 53, f 54, f 55, f 56, f 57, f 58, f 59, f 60, f 61, f 62, f 63, f 64, f 65, f 66, f 67, f 68, f 69, f 70, f 71, f 72, f 73, f 74, f 75, f 76, f 77, f 78, f 79, f 80, f 81, f 82, f 83, f 84, f 85, f 86, f 87, f 88, f 89, f 90, f 91, f 92, f 93, f 94, f 95, f 96, f 97, f 98, f 99, f 100, f 101, f 102, f 103, f 104, f 105, f 106, f 107, f 108, f 109, f 110, f 111, f 112, f 113, f 114, f 115, f 116], defers := [] } _
    rw [b0, b3, b14]
    clear b0 b3 b14
    go_wp2_with (go_at_call 188; refine HBEC.out.mono ?_; rintro e W4 ⟨rfl, hc4, hf4⟩)
    refine cut_use (n := 117) (K := K) _ rfl ?_
    exact HK.out _ W4 _ { t2 with p := t.p } m' rfl rfl HE0.out rfl (HST3.out.moved hf4 (fun k hk e => by have := HRW2.out k hk; omega) hc4) (fun k hk => hk.elim (fun h => .inr (HRW2.out k h)) .inl) ((HFW3.out.mono fun _ h => h.elim).trans hf4 fun k e => .inl e)
end Go.Proofs.YtefepfiijoafbaaGreat
namespace Go.Proofs.YtefepfiijoafbaaGreat
open Go.RowKit Go.Shelf Go.Maps
attribute [local go_sem] Oper.semAt_some
attribute [local go_sem ↓] Go.wp_at_zero Go.wp_at_succ
attribute [local irreducible] wpQuiet
set_option linter.unusedVariables false
set_option linter.unusedSimpArgs false

set_option maxRecDepth 100000 in
set_option maxHeartbeats 4000000 in
/-- It is committed, or may not be. -/
theorem finYes (W : World) (R : Nat → Prop) (p : Nat) (s : SS) (N : Nat) (h : IsState W R p s N) (o : Op) (ho : o.wf) (V : OpS) (hn : s.finals o.start = none) (h0 : o.commit ≠ 0) (hN : N ≤ 100000) (hF : s.Fine N) (w : List Wr) (hl : s.staged o.start = some w) :
    Calls Tryz.prog 119 #[.pointer (some ⟨p, 0, none⟩), .agg (opEnc o V).toArray] W (SPost W R p (sFin predsOf s o.start o.commit) (N + 1)) := by
  have hS := h
  obtain ⟨t, m, rfl, h⟩ := h
  obtain ⟨W0, hW0⟩ : ∃ W0, W.alloc (.cells (opEnc o V).toArray 38) = W0 := ⟨_, rfl⟩
  have hf0 : Fr N0 W W0 := by rw [← hW0]; exact (Fr.refl _ _).alloc _
  have hB : W0.heap[W.heap.size]? = some (.cells (opEnc o V).toArray 38 (0, 0)) := by rw [← hW0]; exact World.alloc_heap_new W _
  have hc := (hf0.at id h.lt.1).trans h.cells
  obtain ⟨m1, n1, l1⟩ := box_cells hc
  obtain ⟨mb, nb, lb⟩ := box_cells hB
  have hlk : (Instr.lookup 44 (.map (some t.mF)) (.int .u64 o.start) true).run Tryz.prog W0.drew = .ok (.tuple #[.int .u64 0, .bool false]) W0.drew :=
    ((h.mapF.fr hf0 id).fr (Fr.refl N0 W0).drew id).look_none lawU Tryz.underlying44 (zeroU64R _) (keyOf_int_mk Tryz.underlying33 ho.start) (by rw [viewF_at, hn]; rfl)
  have hlk2 : (Instr.lookup 120 (.map (some t.mS)) (.int .u64 o.start) true).run Tryz.prog W0.drew.drew = .ok (.tuple #[m.sv o.start, .bool true]) W0.drew.drew :=
    ((h.mapS.fr hf0 id).fr (Fr.refl N0 W0).drew.drew id).look_some lawU Tryz.underlying120 (zeroWsR _) (keyOf_int_mk Tryz.underlying33 ho.start) (by rw [viewS_at, hl]; rfl)
  have hsfin : ∀ e, e = finErr predsOf s w o.commit → (e ≠ 0 → sFin predsOf s o.start o.commit = (s, e)) ∧ (e = 0 → sFin predsOf s o.start o.commit = (finIn predsOf s o.start o.commit w, 0)) := fun e he => by
    constructor
    · intro h1; unfold sFin; rw [hn, hl]; subst he; simp only [if_neg h0, if_neg h1]
    · intro h1; unfold sFin; rw [hn, hl]; subst he; simp only [if_neg h0, if_pos h1]
  have hpostE : ∀ e w', e = finErr predsOf s w o.commit → e ≠ 0 → Fr N0 W w' → SPost W R t.p (sFin predsOf s o.start o.commit) (N + 1) (.returned (.int .i64 e)) w' := fun e w' g1 g2 g3 => by
    rw [(hsfin e g1).1 g2]; exact SPost.same hS g3 (Nat.le_succ N)
  have hpost0 : ∀ w' (R' : Nat → Prop) (t' : StB) (m' : StM), finErr predsOf s w o.commit = 0 → t'.p = t.p → StAt w' R' t' m' { sAft s w o.commit (predsOf w) with staged := updI (sAft s w o.commit (predsOf w)).staged o.start none, finals := updI (sAft s w o.commit (predsOf w)).finals o.start (some o.commit) } (N + 1) → (∀ k, R' k → k = t.p ∨ W.heap.size ≤ k) → Fr (fun j => j = t.p ∨ W.heap.size ≤ j) W w' → SPost W R t.p (sFin predsOf s o.start o.commit) (N + 1) (.returned (.int .i64 0)) w' := fun w' R' t' m' g0 g1 g2 g3 g4 => by
    rw [(hsfin _ rfl).2 g0]
    refine ⟨rfl, R', ⟨t', m', g1, ?_⟩, fun k hk => (g3 k hk).imp (fun (e : k = t.p) => by rw [e]; exact h.inR.1) id, g4.mono fun k hk => Or.imp (fun (e : k = t.p) => by rw [e]; exact h.inR.1) id hk⟩
    exact g2
  have HBW := Lib.hid hB
  obtain ⟨PP, hPP⟩ : ∃ A, SPost W R t.p (sFin predsOf s o.start o.commit) (N + 1) = A := ⟨_, rfl⟩
  simp only [hPP] at hpostE hpost0 ⊢
  have HBO := Lib.hid hB
  rw [opCells_eq] at hB mb hW0 ⊢
  have HLK := Lib.hid hlk; have HLK2 := Lib.hid hlk2; have H0 := Lib.hid h0; have HST := Lib.hid h; have HFF := Lib.hid hF; have HW := Lib.hid hl; have HO := Lib.hid ho; have HPE := Lib.hid hpostE; have HP0 := Lib.hid hpost0; have HF0 := Lib.hid hf0
  have hb : BoxO W0 t.p t.mL t.mS t.mF W.heap.size o.kind o.start o.commit V.wa o.ws.length V.wc o.sch.pred o.sch.ty o.sch.list o.sch.exact_ o.sch.term o.sch.order o.sch.rev o.sch.count o.pred o.at_ V.ta o.nt V.tc V.pa o.np V.pc W0 := ⟨m1, mb, l1, lb, Fr.refl _ _⟩
  have HBX := Lib.hid hb
  clear hsfin h0 hn hlk2 hpostE hpost0 hf0 hb hc hB mb nb lb m1 n1 l1 hPP hlk hS h ho hl hF
  obtain ⟨kd, st, cm, ws, ⟨tp, tt, tl, te, tm, to, tr, tc⟩, pr, at_, nt, np⟩ := o
  obtain ⟨wa, wc, ta, tc', pa, pc⟩ := V
  obtain ⟨nw, hnw⟩ : ∃ n, ws.length = n := ⟨_, rfl⟩
  simp only [hnw] at *
  clear hnw
  obtain ⟨p, mL, mS, mF⟩ := t
  have hlk := HLK.out
  simp only at *
  go_enter Tryz.func119, Tryz.ntmps119
  go_wp2_with fail
  go_region_held3 (BoxO W0 p mL mS mF W.heap.size kd st cm wa nw wc tp tt tl te tm to tr tc pr at_ ta nt tc' pa np pc) (first
    | (with_reducible assumption)
    | (with_reducible exact boxS2_keep (Fr.refl _ _).drew HBX.out)
    | fail) (fail)
  rename_i hHeld
  have HB1 := Lib.hid hHeld
  clear hHeld hlk HLK
  have hlk2 := HLK2.out
  go_wp2_with fail
  go_region_held3 (BoxO W0 p mL mS mF W.heap.size kd st cm wa nw wc tp tt tl te tm to tr tc pr at_ ta nt tc' pa np pc) (first
    | (with_reducible assumption)
    | (with_reducible exact boxS2_keep (Fr.refl _ _).drew HB1.out)
    | fail) (fail)
  rename_i hHeld
  have HB2 := Lib.hid hHeld
  obtain ⟨m2, m3, l2, l3, -⟩ := hHeld
  clear hlk2 HLK2
  have hf4 := HB2.out.2.2.2.2
  rename_i Kx hKx
  show Kx _ _
  refine hKx _ _ ?_
  refine wp_frA _ rfl ?_
  have hfW := HF0.out.then0 hf4
  have hBw := (hf4.at (k := W.heap.size) id (lt_of_block HBW.out)).trans HBO.out
  have hstb := (HST.out.bound).fr hfW fun _ _ => id
  obtain ⟨z1, z2, z3, z4⟩ := HST.out.lt
  have hzW := hfW.size
  refine wp_seq (finC3 _ _ _ _ _ s N hstb (fun k hk => by have := hk.2; omega) HFF.out hN ⟨kd, st, cm, ws, ⟨tp, tt, tl, te, tm, to, tr, tc⟩, pr, at_, nt, np⟩ ⟨wa, wc, ta, tc', pa, pc⟩ HO.out W.heap.size hBw (fun hk => by have := hk.2; omega) w HW.out H0.out rfl rfl rfl rfl (fun f' W' e e4 he he0 hfr => ?_) (fun f' W' R' t' m' e0 e3 he hp' hst' hR' hfr => ?_))
  · exact bodyPost_ret (v := .int .i64 e) (by simp [results, frA, Tryz.results119, go_sem, e4]) rfl (HPE.out _ _ he he0 (hfW.then0 hfr))
  · have hzW' := lt_of_block hBw
    have hS' : ∀ k, R' k → k ≠ W.heap.size := fun k hk e => by
      rcases hR' k hk with h | h
      · have h' : k = p := h
        omega
      · omega
    refine wp_seq (finT' (fun _ _ h => h) W' f' R' t' m' _ N hst' hN ⟨kd, st, cm, ws, ⟨tp, tt, tl, te, tm, to, tr, tc⟩, pr, at_, nt, np⟩ ⟨wa, wc, ta, tc', pa, pc⟩ HO.out W.heap.size ((hfr.at (k := W.heap.size) (fun e => by have e' : W.heap.size = p := e; omega) hzW').trans hBw) (fun e => hS' _ hst'.inR.2.2.1 e.symm) (fun e => hS' _ hst'.inR.2.2.2 e.symm) (e0.trans (by rw [hp'])) e3 fun f2 W2 e4 g1 g2 => ?_)
    have hRR : ∀ k, R' k → k = p ∨ W.heap.size ≤ k := fun k hk => (hR' k hk).imp id fun h => by omega
    refine bodyPost_ret (v := .int .i64 0) (by simp [results, frA, Tryz.results119, go_sem, e4]) rfl (HP0.out W2 R' t' m' he hp' g1 hRR ?_)
    refine (((hfW.mono (T' := fun j => j = p ∨ W.heap.size ≤ j) fun _ h => h.elim).trans hfr fun k e => .inl (.inl e)).trans g2 fun k e => .inl ?_)
    rcases e with e | e
    · exact e ▸ hRR _ hst'.inR.2.2.1
    · exact e ▸ hRR _ hst'.inR.2.2.2
theorem final_any (W : World) (R : Nat → Prop) (p : Nat) (s : SS) (N : Nat) (h : IsState W R p s N) (hF : s.Fine N) (hN : N ≤ 100000) (o : Op) (ho : o.wf) (V : OpS) :
    Calls Tryz.prog 119 #[.pointer (some ⟨p, 0, none⟩), .agg (opEnc o V).toArray] W (SPost W R p (sFin predsOf s o.start o.commit) (N + 1)) := by
  cases hn : s.finals o.start with
  | some c =>
    have := finHad W R p s N h o ho V c hn _ rfl
    rw [show sFin predsOf s o.start o.commit = (s, if c = o.commit then 0 else 210) by unfold sFin; rw [hn]]
    exact this
  | none =>
    by_cases h0 : o.commit = 0
    · have := finAbort W R p s N h o ho V hn h0 hN
      rw [show sFin predsOf s o.start o.commit = ({ s with staged := updI s.staged o.start none, finals := updI s.finals o.start (some 0) }, 0) by unfold sFin; rw [hn]; simp only [h0, if_true]]
      exact this
    · cases hl : s.staged o.start with
      | none =>
        have := finNone W R p s N h o ho V hn hl h0
        rw [show sFin predsOf s o.start o.commit = (s, 211) by unfold sFin; rw [hn, hl]; simp only [h0, if_false]]
        exact this
      | some w => exact finYes W R p s N h o ho V hn h0 hN hF w hl
end Go.Proofs.YtefepfiijoafbaaGreat
