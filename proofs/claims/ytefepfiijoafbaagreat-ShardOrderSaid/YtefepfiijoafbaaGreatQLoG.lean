/- ShardOrder, its fourth loop: the finals in another order, applied to the second state. -/
import Derived.Test.YtefepfiijoafbaaGreatQLoR
import Derived.Test.YtefepfiijoafbaaGreatQLoH
namespace Go.Proofs.YtefepfiijoafbaaGreat
open Go.RowKit Go.Shelf Go.Maps
attribute [local go_sem] Oper.semAt_some
attribute [local go_sem ↓] Go.wp_at_zero Go.wp_at_succ
attribute [local irreducible] wpQuiet
set_option linter.unusedVariables false
set_option linter.unusedSimpArgs false

/-- What the fourth loop's round keeps. -/
structure Lo4 (w wr : World) (Ra : Nat → Prop) (pa pb : Nat) (sa s2 : SS) (Na N : Nat) (fs : List (Op × OpS)) (j : Nat) (zs ys : List (Op × OpS)) (bq : Nat) (v : Value) (Rb S : Nat → Prop) : Prop where
  trio : Trio w wr Ra Rb S pa pb sa ((zs.map (·.1)).foldl stepO s2) Na (N + j)
  perm : (zs ++ ys).Perm fs
  row : RowsK opE 16 wr bq v ys
  inS : 0 < ys.length → S bq
theorem perm_out {α : Type} {l : List α} {k : Nat} (h : k < l.length) : (l[k] :: l.eraseIdx k).Perm l := by
  rw [List.eraseIdx_eq_take_drop_succ]
  have e : l.take k ++ l[k] :: l.drop (k + 1) = l := by rw [List.getElem_cons_drop, List.take_append_drop]
  exact (List.perm_middle.symm).trans (by rw [e])
theorem perm_erase {α : Type} {zs ys fs : List α} {k : Nat} (hk : k < ys.length) (h : (zs ++ ys).Perm fs) : ((zs ++ [ys[k]]) ++ ys.eraseIdx k).Perm fs := by
  refine List.Perm.trans ?_ h
  rw [List.append_assoc]
  refine List.Perm.append_left zs ?_
  exact perm_out hk
theorem Lo4.next {w wr W1 W2 : World} {Ra : Nat → Prop} {pa pb : Nat} {sa s2 : SS} {Na N : Nat} {fs : List (Op × OpS)} {j : Nat} {zs ys : List (Op × OpS)} {bq : Nat} {v : Value} {Rb S : Nat → Prop} (h : Lo4 w wr Ra pa pb sa s2 Na N fs j zs ys bq v Rb S) {k : Nat} (hk : k < ys.length) {Rb' : Nat → Prop}
    (hT : Trio w W1 Rb' Ra S pb pa (sApply ((zs.map (·.1)).foldl stepO s2) ys[k].1).1 sa (N + j + 1) Na) (hf : Fr N0 W1 W2) {b' : Nat} {v' : Value} (hr : RowsK opE 16 W2 b' v' (ys.eraseIdx k)) (hb : b' = bq ∨ W1.heap.size ≤ b') (hbl : b' < W2.heap.size) :
    Lo4 w W2 Ra pa pb sa s2 Na N fs (j + 1) (zs ++ [ys[k]]) (ys.eraseIdx k) b' v' Rb' (fun q => (S q ∨ W1.heap.size ≤ q) ∧ q < W2.heap.size) := by
  refine ⟨?_, perm_erase hk h.perm, hr, fun _ => ⟨?_, hbl⟩⟩
  · rw [folds_snoc]
    exact (hT.swap.own hf (fun _ h => h.elim) fun q hq => hq)
  · exact hb.imp (fun e => by rw [e]; exact h.inS (by omega)) id
set_option maxRecDepth 100000 in
set_option maxHeartbeats 4000000 in
theorem lo4 {K : Act → World → Prop} {Q : Exit → Act → World → Prop} (w W : World) (Ra Rb S : Nat → Prop) (pa pb : Nat) (sa s2 : SS) (Na N : Nat) (fs : List (Op × OpS)) (bq n : Nat) (a : Option Addr) (cap : Nat) (hX : Lo4 w W Ra pa pb sa s2 Na N fs 0 [] fs bq (.slice a n cap) Rb S) (hn0 : n = fs.length) (hgood : ∀ x ∈ fs, OpIs w x.1 x.2 ∧ x.1.wf ∧ x.1.kind = 3) (hn : n ≤ 60) (hN : N ≤ 1000)
    (ts : List Int) (bt : Nat) (ta : Option Addr) (nt tcap : Nat) (hts : Ints .u8 w bt (.slice ta nt tcap) ts) (f : Nat → Value)
    (h2 : f 2 = .slice ta nt tcap) (h8 : f 8 = .pointer (some ⟨pb, 0, none⟩)) (h11 : f 11 = .slice a n cap) (h15 : f 15 = .int .i64 0)
    (hK : ∀ f' W' Rb' S' (zs : List (Op × OpS)), f' 7 = f 7 → f' 8 = f 8 → Trio w W' Ra Rb' S' pa pb sa ((zs.map (·.1)).foldl stepO s2) Na (N + n) → zs.Perm fs → K (frA 174 f') W') :
    Code.wp Tryz.prog (lvIn (lvSnd (lvFst (loB 9)))) (Exit.inBlock 6 (Exit.then K Q)) (frA 174 f) W := by
  obtain ⟨io, zo, hio, hzo, hso, hbo⟩ := infoOpX
  have HIO := Lib.hid hio
  obtain ⟨ta', toff, tcap', he, t1, t2, t3, t4, t5, t6⟩ := hts
  injection he with e1 e2 e3
  subst e1 e2 e3
  have HK := Lib.hid hK; have HL := Lib.hid hn0; have HG := Lib.hid hgood; have HX0 := Lib.hid hX; have HT5 := Lib.hid t5; have HT6 := Lib.hid t6
  clear hX hn0 hgood hK
  show Code.wp _ _ _ { tmps := #[f 0, f 1, f 2, f 3, f 4, f 5, f 6, f 7, f 8, f 9, f 10, f 11, f 12, f 13, f 14, f 15, f 16, f 17, f 18, f 19, f 20, f 21, f 22, f 23, f 24, f 25, f 26, f 27, f 28, f 29, f 30, f 31, f 32, f 33, f 34, f 35, f 36, f 37, f 38, f 39, f 40, f 41, f 42, f 43, f 44, f 45, f 46, f 47, f 48, f 49, f 50, f 51, f 52, f 53, f 54, f 55, f 56, f 57, f 58, f 59, f 60, f 61, f 62, f 63, f 64, f 65, f 66, f 67, f 68, f 69, f 70, f 71, f 72, f 73, f 74, f 75, f 76, f 77, f 78, f 79, f 80, f 81, f 82, f 83, f 84, f 85, f 86, f 87, f 88, f 89, f 90, f 91, f 92, f 93, f 94, f 95, f 96, f 97, f 98, f 99, f 100, f 101, f 102, f 103, f 104, f 105, f 106, f 107, f 108, f 109, f 110, f 111, f 112, f 113, f 114, f 115, f 116, f 117, f 118, f 119, f 120, f 121, f 122, f 123, f 124, f 125, f 126, f 127, f 128, f 129, f 130, f 131, f 132, f 133, f 134, f 135, f 136, f 137, f 138, f 139, f 140, f 141, f 142, f 143, f 144, f 145, f 146, f 147, f 148, f 149, f 150, f 151, f 152, f 153, f 154, f 155, f 156, f 157, f 158, f 159, f 160, f 161, f 162, f 163, f 164, f 165, f 166, f 167, f 168, f 169, f 170, f 171, f 172, f 173], defers := [] } _
  rw [h2, h8, h11, h15]
  have H8 := Lib.hid h8
  clear h2 h8 h11 h15
  conv => arg 2; whnf
  go_frame
  go_loopw [11, 15] (fun fv iv wr => ∃ (j m : Nat) (a : Option Addr) (cap : Nat) (zs ys : List (Op × OpS)) (bq : Nat) (Rb S : Nat → Prop), fv = .slice a m cap ∧ iv = .int .i64 j ∧ j + m = n ∧ Hid (m = ys.length) ∧ Hid (Lo4 w wr Ra pa pb sa s2 Na N fs j zs ys bq (.slice a m cap) Rb S)) (fun _ iv _ => n - (intOf iv).toNat)
  case atStart => exact ⟨0, n, a, cap, [], fs, bq, Rb, S, rfl, rfl, by omega, HL, HX0⟩
  case round =>
    obtain ⟨j, m, a1, cap1, zs, ys, bq1, Rb1, S1, rfl, rfl, hjm, HM, HX⟩ := hrel
    obtain ⟨-, q1, q2, q3⟩ := rowk_form HX.out.row
    by_cases hlt : 0 < m
    · obtain ⟨off, rfl⟩ := q3 hlt
      have hmi : (0 : Int) < (m : Int) := by omega
      have hk : ∃ kk : Nat, kk < m ∧ (∀ h : j < ts.length, (ts[j]).tmod m = kk ∧ ts[j] % (m : Int) = kk) ∧ (¬ j < ts.length → kk = 0) := by
        by_cases h : j < ts.length
        · have hw := HT6.out _ (List.getElem_mem h)
          have h0 := (wf_u8' hw).1
          have h1 := Int.emod_nonneg ts[j] (show (m : Int) ≠ 0 by omega)
          have h2 := Int.emod_lt_of_pos ts[j] hmi
          refine ⟨(ts[j] % (m : Int)).toNat, by omega, fun _ => ⟨?_, by omega⟩, fun h' => absurd h h'⟩
          rw [Int.tmod_eq_emod_of_nonneg h0]; omega
        · exact ⟨0, hlt, fun h' => absurd h' h, fun _ => rfl⟩
      obtain ⟨kk, hkm, hk1, hk2⟩ := hk
      have hc : kk < ys.length := by rw [← HM.out]; exact hkm
      have hat := op_at (rowk_at (HM.out ▸ HX.out.row) kk hc)
      have hmem : ys[kk] ∈ fs := HX.out.perm.subset (by simp)
      obtain ⟨hop, hwf, hk3⟩ := HG.out ys[kk] hmem
      have hcall := trio_cells HX.out.trio.swap (by omega) ys[kk].1 hwf ys[kk].2 hop (.inr (.inr hk3)) _ rfl
      have hnext := fun W1 W2 Rb' => HX.out.next (W1 := W1) (W2 := W2) (Rb' := Rb') hc
      have hrem := fun W (hr : RowsK opE 16 W bq1 (.slice (some ⟨bq1, off, none⟩) ys.length cap1) ys) => run_remove (P := Tryz.prog) opE_len (by decide) opE_one hr kk hc (by rw [← HM.out]; omega) 23 23 38 io zo Tryz.underlying23 hio hzo hso hbo
      rw [← HM.out] at hrem
      have hle : (ys.eraseIdx kk).length = m - 1 := by rw [List.length_eraseIdx]; simp [hc]; have := HM.out; omega
      obtain ⟨x, hx⟩ : ∃ x, ys[kk] = x := ⟨_, rfl⟩
      simp only [hx] at hat hcall hnext
      obtain ⟨⟨kd, st, cm, ws, ⟨sp, sy, sl, se, sm, so, sr, sc⟩, pr, at_, nt', np⟩, ⟨wa, wc, ta', tc, pa', pc⟩⟩ := x
      simp only at hat hcall hnext
      obtain ⟨nw, hnw⟩ : ∃ n, ws.length = n := ⟨_, rfl⟩
      simp only [hnw] at hat hcall
      have hki : (kk : Int) < (m : Int) := by omega
      have hkc : (kk : Int) ≤ (cap1 : Int) := by omega
      have hkc1 : (kk : Int) + 1 ≤ (cap1 : Int) := by omega
      have hkm1 : (kk : Int) + 1 ≤ (m : Int) := by omega
      have hk0 : (0 : Int) ≤ (kk : Int) := by omega
      have hj0 : (j : Int) ≤ 100 := by omega
      have HC := Lib.hid hcall; have HNX := Lib.hid hnext; have HRM := Lib.hid hrem; have HLE := Lib.hid hle
      have hbS : Hid (S1 bq1) := HX.out.inS (by have := HM.out; omega)
      have HF0 := Lib.hid HX.out.trio.pair.1.2.2.2
      clear hcall hnext hrem hle hx hop hwf hk3 hnw hc hmem hio hzo hso hbo
      obtain ⟨c0, c1, c2, c3, c4, c5, c6, c7, c8, c9, c10, c11, c12, c13, c14, c15⟩ := hat
      have tail : ∀ (W2 : World) (Rb2 : Nat → Prop), Trio w W2 Rb2 Ra S1 pb pa (sApply ((zs.map (·.1)).foldl stepO s2) ⟨kd, st, cm, ws, ⟨sp, sy, sl, se, sm, so, sr, sc⟩, pr, at_, nt', np⟩).1 sa (N + j + 1) Na → RowsK opE 16 W2 bq1 (.slice (some ⟨bq1, off, none⟩) m cap1) ys → True := fun _ _ _ _ => trivial
      by_cases hj : j < ts.length
      · obtain ⟨e1, e2⟩ := hk1 hj
        have hx0 := wf_u8' (HT6.out _ (List.getElem_mem hj))
        have ct := HF0.out.cell id (HT5.out j hj)
        obtain rfl := t3 (by omega)
        have hjt : (j : Int) < (ts.length : Int) := by omega
        obtain ⟨x, hx⟩ : ∃ x, ts[j] = x := ⟨_, rfl⟩
        simp only [hx] at e1 e2 hx0 ct
        obtain ⟨x0, x1⟩ := hx0
        clear hx hk1 hk2 tail
        go_wp2_with fail
        refine HC.out.mono ?_
        rintro e w2 ⟨rfl, ⟨Rb2, hT2⟩, hf2⟩
        have hr2 : RowsK opE 16 w2.drew bq1 (.slice (some ⟨bq1, off, none⟩) m cap1) ys := rowsK_frT opE_len HX.out.row hf2.drew fun _ => (HX.out.trio.apart bq1 hbS.out).2
        have HT2 := Lib.hid hT2
        clear hT2 c0 c1 c2 c3 c4 c5 c6 c7 c8 c9 c10 c11 c12 c13 c14 c15 e1 e2 x0 x1 ct
        by_cases hcap : kk + 1 = cap1
        · obtain ⟨a3, cp, b', w3, hrun, hr3, hf3, hb3, hbl3⟩ := HRM.out w2.drew hr2 ⟨bq1, off, none⟩ (fun h => by omega)
          have hm1 : m - (kk + 1) = 0 := by omega
          rw [hm1, run_append_none0 w2.drew 23 23 38 io Tryz.underlying23 HIO.out] at hrun
          injection hrun with e1 e2
          subst e2
          have hw2 : ((kk : Int) + 1).toNat = kk + 1 := by omega
          have hw3 : (0 : Int) ≤ (kk : Int) + 1 := by omega
          have hw1 : IntKind.i64.wrap ((kk : Int) + 1) = (kk : Int) + 1 := IntWalk.i64_in _ (by omega)
          have E1 := Lib.hid e1
          have HR3 := Lib.hid hr3; have HF3 := Lib.hid ((Fr.refl N0 w2).drew.then0 hf3); have HB3 := Lib.hid hb3; have HBL := Lib.hid hbl3
          clear hr3 hf3 hb3 hbl3 hr2 hf2 e1 hm1
          go_wp2_with fail
          refine wp_plainN ?_
          go_region_law (fail)
          all_goals
            clear hw1 hw2 hw3
            go_wp2_with fail
            go_roundw
            case rel => exact ⟨j + 1, m - 1, some a3, cp, _, _, b', Rb2, _, E1.out, by go_num, by omega, Lib.hid HLE.out.symm, Lib.hid (HNX.out w2 w2.drew Rb2 HT2.out HF3.out HR3.out HB3.out HBL.out)⟩
            case measure => simp [intOf]; omega
        · obtain ⟨a3, cp, b', w3, hrun, hr3, hf3, hb3, hbl3⟩ := HRM.out w2.drew hr2 ⟨bq1, off + (kk + 1) * 16, none⟩ (fun _ => rfl)
          have hcap' : ¬ cap1 = kk + 1 := fun e => hcap e.symm
          have hw1 : IntKind.i64.wrap ((kk : Int) + 1) = (kk : Int) + 1 := IntWalk.i64_in _ (by omega)
          have hw2 : ((kk : Int) + 1).toNat = kk + 1 := by omega
          have hw3 : (0 : Int) ≤ (kk : Int) + 1 := by omega
          have HR3 := Lib.hid hr3; have HF3 := Lib.hid ((Fr.refl N0 w2).drew.then0 hf3); have HB3 := Lib.hid hb3; have HBL := Lib.hid hbl3
          clear hr3 hf3 hb3 hbl3 hr2 hf2
          go_wp2_with fail
          refine wp_plainN ?_
          go_region_law (refine step_append_run (by rfl) _ _ 23 23 (by rfl) _ _ (by go_simp) (by go_simp) hrun ?_)
          all_goals
            clear hw1 hw2 hw3 hrun
            go_wp2_with fail
            go_roundw
            case rel => exact ⟨j + 1, m - 1, some a3, cp, _, _, b', Rb2, _, rfl, by go_num, by omega, Lib.hid HLE.out.symm, Lib.hid (HNX.out w2 w3 Rb2 HT2.out HF3.out HR3.out HB3.out HBL.out)⟩
            case measure => simp [intOf]; omega
      · have e0 := hk2 hj
        subst e0
        have hjt : ¬ (j : Int) < (ts.length : Int) := by omega
        clear hk1 hk2 tail
        simp only [Nat.zero_mul, Nat.add_zero] at c0 c1 c2 c3 c4 c5 c6 c7 c8 c9 c10 c11 c12 c13 c14 c15
        clear hki hkc hkm1 hk0 hkc1
        have hmc : (1 : Int) ≤ (cap1 : Int) := by omega
        have hmm : (1 : Int) ≤ (m : Int) := by omega
        go_wp2_with fail
        refine HC.out.mono ?_
        rintro e w2 ⟨rfl, ⟨Rb2, hT2⟩, hf2⟩
        have hr2 : RowsK opE 16 w2.drew bq1 (.slice (some ⟨bq1, off, none⟩) m cap1) ys := rowsK_frT opE_len HX.out.row hf2.drew fun _ => (HX.out.trio.apart bq1 hbS.out).2
        have HT2 := Lib.hid hT2
        clear hT2 c0 c1 c2 c3 c4 c5 c6 c7 c8 c9 c10 c11 c12 c13 c14 c15
        by_cases hcap : 0 + 1 = cap1
        · obtain ⟨a3, cp, b', w3, hrun, hr3, hf3, hb3, hbl3⟩ := HRM.out w2.drew hr2 ⟨bq1, off, none⟩ (fun h => by omega)
          obtain rfl : cap1 = 1 := by omega
          obtain rfl : m = 1 := by omega
          rw [show 1 - (0 + 1) = 0 from rfl, run_append_none0 w2.drew 23 23 38 io Tryz.underlying23 HIO.out] at hrun
          injection hrun with e1 e2
          subst e2
          have E1 := Lib.hid e1
          have HR3 := Lib.hid hr3; have HF3 := Lib.hid ((Fr.refl N0 w2).drew.then0 hf3); have HB3 := Lib.hid hb3; have HBL := Lib.hid hbl3
          clear hr3 hf3 hb3 hbl3 hr2 hf2 e1 hcap
          have hw1 : IntKind.i64.wrap 1 = 1 := by decide
          go_wp2_with fail
          refine wp_plainN ?_
          go_region_law (fail)
          all_goals
            clear hw1
            go_wp2_with fail
            go_roundw
            case rel => exact ⟨j + 1, 0, some a3, cp, _, _, b', Rb2, _, E1.out, by go_num, by omega, Lib.hid HLE.out.symm, Lib.hid (HNX.out w2 w2.drew Rb2 HT2.out HF3.out HR3.out HB3.out HBL.out)⟩
            case measure => simp [intOf]; omega
        · obtain ⟨a3, cp, b', w3, hrun, hr3, hf3, hb3, hbl3⟩ := HRM.out w2.drew hr2 ⟨bq1, off + (0 + 1) * 16, none⟩ (fun _ => rfl)
          have hcap' : ¬ cap1 = 1 := fun e => hcap e.symm
          have HR3 := Lib.hid hr3; have HF3 := Lib.hid ((Fr.refl N0 w2).drew.then0 hf3); have HB3 := Lib.hid hb3; have HBL := Lib.hid hbl3
          clear hr3 hf3 hb3 hbl3 hr2 hf2
          have hw1 : IntKind.i64.wrap 1 = 1 := by decide
          go_wp2_with fail
          refine wp_plainN ?_
          go_region_law (refine step_append_run (by rfl) _ _ 23 23 (by rfl) _ _ (by go_simp) (by go_simp) hrun ?_)
          all_goals
            clear hrun hw1
            go_wp2_with fail
            go_roundw
            case rel => exact ⟨j + 1, m - 1, some a3, cp, _, _, b', Rb2, _, rfl, by go_num, by omega, Lib.hid HLE.out.symm, Lib.hid (HNX.out w2 w3 Rb2 HT2.out HF3.out HR3.out HB3.out HBL.out)⟩
            case measure => simp [intOf]; omega
    · obtain rfl : m = 0 := by omega
      have hys : ys = [] := List.eq_nil_of_length_eq_zero HM.out.symm
      go_wp2
      refine cut_use (n := 174) (K := K) _ rfl ?_
      have hp := HX.out.perm
      rw [hys, List.append_nil] at hp
      have hjn : j = n := by omega
      exact HK.out _ _ Rb1 S1 zs rfl H8.out.symm (hjn ▸ HX.out.trio) hp
end Go.Proofs.YtefepfiijoafbaaGreat
