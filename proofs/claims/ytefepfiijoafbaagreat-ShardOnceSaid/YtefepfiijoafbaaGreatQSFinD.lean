/- final: a commit's second loop. -/
import Derived.Test.YtefepfiijoafbaaGreatQSFinC
namespace Go.Proofs.YtefepfiijoafbaaGreat
open Go.RowKit Go.Shelf Go.Maps
attribute [local go_sem] Oper.semAt_some
attribute [local go_sem ↓] Go.wp_at_zero Go.wp_at_succ
attribute [local irreducible] wpQuiet
set_option linter.unusedVariables false
set_option linter.unusedSimpArgs false

open Classical in
/-- The lists of some predicates have the commit. -/
noncomputable def sAft (s : SS) (w : List Wr) (c : Int) (ps : List ByteArray) : SS := { s with lists := fun q => if q ∈ ps then (s.lists q).map fun l => addIn l ⟨c, ownW w q⟩ else s.lists q }
theorem sAft_nil (s : SS) (w : List Wr) (c : Int) : sAft s w c [] = s := by simp [sAft]
theorem sAft_snoc {s : SS} {w : List Wr} {c : Int} {ps : List ByteArray} {q : ByteArray} {l : PL} (hq : s.lists q = some l) (hn : q ∉ ps) : { sAft s w c ps with lists := updB (sAft s w c ps).lists q (some (addIn l ⟨c, ownW w q⟩)) } = sAft s w c (ps ++ [q]) := by
  unfold sAft
  simp only [SS.mk.injEq, and_true]
  funext x
  unfold updB
  by_cases e : x = q
  · subst e; simp [hq]
  · by_cases hx : x ∈ ps <;> simp [e, hx]
theorem own_filter (w : List Wr) (x : ByteArray) : (w.filter fun y => !(y.pred.toList != x.toList)) = ownW w x := by
  unfold ownW
  congr 1
  funext y
  by_cases e : y.pred = x
  · simp [e]
  · have : y.pred.toList ≠ x.toList := fun h => e (by rw [toList_eq_data, toList_eq_data] at h; exact ByteArray.ext (Array.toList_inj.1 h))
    simp [e, this]
theorem sAft_old {s : SS} {w : List Wr} {c : Int} {ps : List ByteArray} {q : ByteArray} (hn : q ∉ ps) : (sAft s w c ps).lists q = s.lists q := by simp [sAft, hn]

/-- Three cells' worth of boxes, in whatever world. -/
abbrev BoxF (p : Nat) (cs : Array Value) (B : Nat) (ds : Array Value) (A : Nat) (q : ByteArray) (W : World) : Prop := ((∀ i, W.cell? ⟨p, i, none⟩ = cs[i]?) ∧ p < W.heap.size) ∧ ((∀ i, W.cell? ⟨B, i, none⟩ = ds[i]?) ∧ B < W.heap.size) ∧ W.cell? ⟨A, 0, none⟩ = some (.string q)
theorem boxF_keep {T : Nat → Prop} {p : Nat} {cs : Array Value} {B : Nat} {ds : Array Value} {A : Nat} {q : ByteArray} {W W' : World} (hf : Fr T W W') (hp : ¬ T p) (hB : ¬ T B) (hA : ¬ T A) (h : BoxF p cs B ds A q W) : BoxF p cs B ds A q W' :=
  ⟨⟨fun i => (cell_same (p := ⟨p, i, none⟩) (hf.at hp h.1.2)).trans (h.1.1 i), Nat.lt_of_lt_of_le h.1.2 hf.size⟩, ⟨fun i => (cell_same (p := ⟨B, i, none⟩) (hf.at hB h.2.1.2)).trans (h.2.1.1 i), Nat.lt_of_lt_of_le h.2.1.2 hf.size⟩, hf.cell hA h.2.2⟩

set_option maxRecDepth 100000 in
set_option maxHeartbeats 8000000 in
theorem finLoop2 {K : Act → World → Prop} {Q : Exit → Act → World → Prop} (W : World) (f : Nat → Value) (R2 : Nat → Prop) (t : StB) (m : StM) (s : SS) (N : Nat) (h : StAt W R2 t m s N) (hR2 : ∀ k, R2 k → k < W.heap.size) (hF : s.Fine N) (hN : N ≤ 100000) (P : List ByteArray) (bb : Nat) (a : Option Addr) (cap : Nat) (hP : Strs W bb (.slice a P.length cap) P) (hbb : 0 < P.length → ¬ R2 bb) (hsz : ∀ q ∈ P, q.size ≤ 64) (hn : P.length ≤ 1000) (hnd : P.Nodup)
    (hall : ∀ q ∈ P, s.lists q ≠ none) (o : Op) (V : OpS) (ho : o.wf) (B : Nat) (hB : W.heap[B]? = some (.cells (opEnc o V).toArray 38 (0, 0))) (hBR : ¬ R2 B) (w : List Wr) (bw : Nat) (wa : Option Addr) (wc : Nat) (hw : Wrs W bw (.slice wa w.length wc) w) (hbw : 0 < w.length → ¬ R2 bw) (hwl : w.length ≤ 256) (hwf : ∀ x ∈ w, x.wf)
    (h3 : f 3 = .pointer (some ⟨B, 0, none⟩)) (h7 : f 7 = .slice wa w.length wc) (h14 : f 14 = .pointer (some ⟨t.p, 0, none⟩)) (h72 : f 72 = .slice a P.length cap) (h73 : f 73 = .int .i64 P.length) (h74 : f 74 = .int .i64 0)
    (hQ : ∀ f' W' k e, f' 4 = .int .i64 e → (hk : k < P.length) → (∀ j (hj : j < P.length), j < k → ((s.lists P[j]).map fun l => addErr l ⟨o.commit, ownW w P[j]⟩).getD 0 = 0) → ((s.lists P[k]).map fun l => addErr l ⟨o.commit, ownW w P[k]⟩).getD 0 = e → e ≠ 0 → Fr R2 W W' → Q .ret (frA 117 f') W')
    (hK : ∀ f' W' R' m', f' 0 = f 0 → f' 3 = f 3 → f' 14 = f 14 → (∀ j (hj : j < P.length), ((s.lists P[j]).map fun l => addErr l ⟨o.commit, ownW w P[j]⟩).getD 0 = 0) → StAt W' R' t m' (sAft s w o.commit P) N → (∀ k, R' k → (R2 k ∨ W.heap.size ≤ k) ∧ k < W'.heap.size) → Fr R2 W W' → K (frA 117 f') W') :
    Code.wp Tryz.prog finL2 (Exit.inBlock 2 (Exit.then K Q)) (frA 117 f) W := by
  obtain ⟨a', off, cap', he, p1, p2, p3, -, p5⟩ := hP
  injection he with e1 e2 e3
  subst e1 e3
  have hcw := hw
  rw [opCells_eq] at hB
  have hBlt := lt_of_block hB
  obtain ⟨p, mL, mS, mF⟩ := t
  obtain ⟨kd, st, cm, ows, ⟨tp, tt, tl, te, tm, to, tr, tc⟩, pr, at_, nt, np⟩ := o
  obtain ⟨va, vc, ta, tc', pa, pc⟩ := V
  simp only at *
  have HH := Lib.hid h; have HF := Lib.hid hF; have HP := Lib.hid p5; have HQ := Lib.hid hQ; have HK := Lib.hid hK; have HBL := Lib.hid hB; have HW := Lib.hid hw; have HSZ := Lib.hid hsz; have HND := Lib.hid hnd; have HALL := Lib.hid hall; have HWF := Lib.hid hwf; have HO := Lib.hid ho; have HR2 := Lib.hid hR2; have HBB := Lib.hid hbb; have HBW := Lib.hid hbw; have HBR := Lib.hid hBR
  have H3 := Lib.hid h3; have H14 := Lib.hid h14
  clear h hF p5 hQ hK hB hw hsz hnd hall hwf ho hR2 hbb hbw hBR hcw
  show Code.wp _ _ _ { tmps := #[f 0, f 1, f 2, f 3, f 4, f 5, f 6, f 7, f 8, f 9, f 10, f 11, f 12, f 13, f 14, f 15, f 16, f 17, f 18, f 19, f 20, f 21, f 22, f 23, f 24, f 25, f 26, f 27, f 28, f 29, f 30, f 31, f 32, f 33, f 34, f 35, f 36, f 37, f 38, f 39, f 40, f 41, f 42, f 43, f 44, f 45, f 46, f 47, f 48, f 49, f 50, f 51, f 52, f 53, f 54, f 55, f 56, f 57, f 58, f 59, f 60, f 61, f 62, f 63, f 64, f 65, f 66, f 67, f 68, f 69, f 70, f 71, f 72, f 73, f 74, f 75, f 76, f 77, f 78, f 79, f 80, f 81, f 82, f 83, f 84, f 85, f 86, f 87, f 88, f 89, f 90, f 91, f 92, f 93, f 94, f 95, f 96, f 97, f 98, f 99, f 100, f 101, f 102, f 103, f 104, f 105, f 106, f 107, f 108, f 109, f 110, f 111, f 112, f 113, f 114, f 115, f 116], defers := [] } _
  rw [h3, h7, h14, h72, h73, h74]
  clear h3 h7 h14 h72 h73 h74
  conv => arg 2; whnf
  go_frame
  go_loopw [74] (fun iv wr => ∃ (k : Nat) (R' : Nat → Prop) (m' : StM), k ≤ P.length ∧ iv = .int .i64 k ∧ Hid (StAt wr R' ⟨p, mL, mS, mF⟩ m' (sAft s w cm (P.take k)) N) ∧ Hid (∀ j, R' j → (R2 j ∨ W.heap.size ≤ j) ∧ j < wr.heap.size) ∧ Hid (∀ j (hj : j < P.length), j < k → ((s.lists P[j]).map fun l => addErr l ⟨cm, ownW w P[j]⟩).getD 0 = 0) ∧ Fr R2 W wr) (fun iv _ => P.length - (intOf iv).toNat)
  case atStart => exact ⟨0, R2, m, Nat.zero_le _, rfl, by rw [List.take_zero, sAft_nil]; exact HH.out, fun j hj => ⟨.inl hj, HR2.out j hj⟩, fun j h hj => by omega, Fr.refl _ _⟩
  case round =>
    obtain ⟨k, R', m', hk, rfl, hst, hRb, hz, hfr⟩ := hrel
    by_cases hlt : k < P.length
    · obtain rfl := p3 (by omega)
      have c0 := hfr.cell (HBB.out (by omega)) (HP.out k hlt)
      have hki : (k : Int) < (P.length : Int) := by omega
      have hst := hst.out.bound
      obtain ⟨m2, hm2⟩ : ∃ m2 : StM, ({ m' with RL := fun x k => m'.RL x k ∧ k < wr.heap.size } : StM) = m2 := ⟨_, rfl⟩
      have hRLb : ∀ y j, m2.RL y j → j < wr.heap.size := fun y j hj => by rw [← hm2] at hj; exact hj.2
      rw [hm2] at hst
      clear hm2
      have hxm := List.getElem_mem hlt
      have htk := List.take_succ_eq_append_getElem hlt
      have hnt : P[k] ∉ P.take k := fun hin => by
        obtain ⟨j, hj, e⟩ := List.mem_iff_getElem.1 hin
        rw [List.getElem_take] at e
        have hj' : j < k := by simp at hj; omega
        exact List.pairwise_iff_getElem.1 HND.out j k (by omega) hlt hj' e
      have hzk : ∀ e, ((s.lists P[k]).map fun l => addErr l ⟨cm, ownW w P[k]⟩).getD 0 = e → e ≠ 0 → ∀ f' W', f' 4 = .int .i64 e → Fr R2 W W' → Q .ret (frA 117 f') W' := fun e he h0 f' W' h4 hf' => HQ.out f' W' k e h4 hlt hz.out he h0 hf'
      have hzn : ((s.lists P[k]).map fun l => addErr l ⟨cm, ownW w P[k]⟩).getD 0 = 0 → ∀ j (hj : j < P.length), j < k + 1 → ((s.lists P[j]).map fun l => addErr l ⟨cm, ownW w P[j]⟩).getD 0 = 0 := fun he j h hj => by
        rcases Nat.lt_or_ge j k with h' | h'
        · exact hz.out j h h'
        · have : j = k := by omega
          subst this; exact he
      obtain ⟨x, hx⟩ : ∃ x, P[k] = x := ⟨_, rfl⟩
      simp only [hx] at c0 hxm htk hnt hzk hzn
      obtain ⟨l, hl⟩ := Option.ne_none_iff_exists'.1 (HALL.out x hxm)
      simp only [hl, Option.map_some, Option.getD_some] at hzk hzn
      have hfine := HF.out.lists x l hl
      have hlx : (sAft s w cm (P.take k)).lists x = some l := by rw [sAft_old hnt]; exact hl
      have hIP0 := hst.lists.1 x l hlx
      have hRLx := hst.lists.2.1 x
      have hsx := HSZ.out x hxm
      have hwr : Wrs wr bw (.slice wa w.length wc) w := rowsK_frT (enc := Wr.enc) (n := 8) (fun _ => rfl) HW.out hfr fun h0 e => HBW.out h0 e
      have hBwr := (hfr.at (k := B) HBR.out hBlt).trans HBL.out
      have hzwr := hfr.size
      have hcl := cloneW_any (wr.alloc (.cells #[.string x] 9)) bw _ w (hwr.fr0 ((Fr.refl N0 wr).alloc _)) (by omega)
      have HST := Lib.hid hst; have HRB := Lib.hid hRb.out; have HZK := Lib.hid hzk; have HZN := Lib.hid hzn; have HFR := Lib.hid hfr; have HCL := Lib.hid hcl; have HIP0 := Lib.hid hIP0; have HRLX := Lib.hid hRLx; have HFINE := Lib.hid hfine; have HLX := Lib.hid hlx; have HBWR := Lib.hid hBwr; have HTK := Lib.hid htk; have HRLB := Lib.hid hRLb; have HLL := Lib.hid hl; have HNT := Lib.hid hnt
      have HSX := Lib.hid hsx
      clear hst hRb hz hfr hcl hIP0 hRLx hfine hlx hBwr htk hRLb hzk hzn hl hwr hx hxm hnt hsx
      go_wp2_with fail
      refine HCL.out.mono ?_
      rintro e w2 ⟨v1, rfl, hr1, -, hf2⟩
      obtain ⟨r1, rc1, rfl⟩ := slice_of_row hr1
      have hrl1 := ownsRow_lt hr1
      have hA2 : w2.cell? ⟨wr.heap.size, 0, none⟩ = some (.string x) := hf2.cell id ((box_cells (World.alloc_heap_new wr (.cells #[.string x] 9))).1 0)
      have hdel := delFW_any w2 _ _ w hr1 (by omega) 187 #[.pointer (some ⟨wr.heap.size, 0, none⟩)] (fun y => y.pred.toList != x.toList) (fun y hy W' hf' => final1_any y W' wr.heap.size x (hf'.cell (fun e => by have := (hrl1 _ e).1; simp at this; omega) hA2)) (fun args w => by kernel_rfl)
      rw [own_filter] at hdel
      have HDEL := Lib.hid hdel; have HF2 := Lib.hid hf2; have HA2 := Lib.hid hA2; have HRL1 := Lib.hid hrl1
      clear hdel hr1 hf2 hA2 hrl1
      go_wp2_with fail
      refine HDEL.out.mono ?_
      rintro e w3 ⟨v3, rfl, hr3, hf3⟩
      obtain ⟨r3, rc3, rfl⟩ := slice_of_row hr3
      have hf13 : Fr N0 wr w3 := (((Fr.refl N0 wr).alloc _).then0 HF2.out).trans hf3 fun k' e => .inr (by have := (HRL1.out k' e).1; simp at this; omega)
      have hst3 := HST.out.fr hf13 fun _ _ => id
      have hb3 : (BoxF p #[.bool true, .map (some mL), .map (some mS), .map (some mF)] B (OpCells kd st cm va ows.length vc tp tt tl te tm to tr tc pr at_ ta nt tc' pa np pc) wr.heap.size x) w3 := ⟨⟨(box_cells hst3.cells).1, (box_cells hst3.cells).2.2⟩, ⟨(box_cells ((hf13.at id (lt_of_block HBWR.out)).trans HBWR.out)).1, Nat.lt_of_lt_of_le (lt_of_block HBWR.out) hf13.size⟩, hf3.cell (fun e => by have := (HRL1.out _ e).1; simp at this; omega) HA2.out⟩
      have hbd := boxF_keep (Fr.refl N0 w3).drew id id id hb3
      have hkx : keyOf Tryz.prog 9 (.string x) = some (litS x) := Go.WideMaps.keyOf_string_mk Tryz.underlying9 (by have := HSX.out; unfold maxLen; omega)
      have hlk : (Instr.lookup 119 (.map (some mL)) (.string x) false).run Tryz.prog w3.drew = .ok (.pointer (some ⟨m2.pt x, 0, none⟩)) w3.drew := by
        have := ((hst3.mapL.fr (Fr.refl N0 w3).drew id).look lawSt Tryz.underlying119 (zeroPLR _) hkx).1
        rw [viewL_at, HLX.out] at this
        exact this
      obtain ⟨b3, -, hbk⟩ := rowsK_of_row (enc := Wr.enc) (n := 8) (fun _ => rfl) (by decide) hr3
      have hr3l := ownsRow_lt hr3
      have hadd := add_any w3.drew (m2.RL x) (m2.pt x) x l ⟨cm, r3, (ownW w x).length, rc3⟩ (ownW w x) b3 N ((HIP0.out.fr hf13 fun _ _ => id).fr (Fr.refl N0 w3).drew fun _ _ => id) HFINE.out hN (Wrs.fr0 hbk (Fr.refl N0 w3).drew) (fun y hy => HWF.out y (List.mem_filter.1 hy).1) (Nat.le_trans (List.length_filter_le _ _) (by omega)) fun hpos hin => by
        obtain ⟨a, off', cap', he', -, -, g3, -⟩ := hbk
        have ho : (Value.slice r3 (ownW w x).length rc3).ownBlock = some b3 := by rw [he', g3 hpos]; rfl
        have h1 := (hr3l b3 ho).1
        have h2 := HRLB.out x b3 hin
        simp at h1; omega
      have hz13 := hf13.size
      have HNP : Hid (¬ m2.RL x p) := fun e => (HRLX.out p e).2.1 rfl
      have HNB : Hid (¬ m2.RL x B) := fun e => by
        have := HRB.out B (HRLX.out B e).1.1
        rcases this.1 with h | h
        · exact HBR.out h
        · omega
      have HNA : Hid (¬ m2.RL x wr.heap.size) := fun e => by have := HRLB.out x _ e; omega
      have HRL2 : Hid (∀ j, m2.RL x j → R2 j ∨ W.heap.size ≤ j) := fun j hj => (HRB.out j (HRLX.out j hj).1.1).1
      obtain ⟨nf, hnf⟩ : ∃ n, (ownW w x).length = n := ⟨_, rfl⟩
      simp only [CmV.enc, hnf] at hadd ⊢
      obtain ⟨pt, hpt⟩ : ∃ y, m2.pt x = y := ⟨_, rfl⟩
      rw [hpt] at hlk hadd
      have HST3 := Lib.hid hst3; have HBD := Lib.hid hbd; have HF13 := Lib.hid hf13; have HPT := Lib.hid hpt
      clear hst3 hb3 hbd hf13 hbk hr3 hr3l hf3 hkx hnf hpt
      by_cases hE : addErr l ⟨cm, ownW w x⟩ = 0
      · rw [show addPL l ⟨cm, ownW w x⟩ = (addIn l ⟨cm, ownW w x⟩, 0) by unfold addPL; rw [if_pos hE]] at hadd
        have HADD := Lib.hid hadd; have HE := Lib.hid hE
        clear hadd hE
        go_wp2_with fail
        go_region_held3 (BoxF p #[.bool true, .map (some mL), .map (some mS), .map (some mF)] B (OpCells kd st cm va ows.length vc tp tt tl te tm to tr tc pr at_ ta nt tc' pa np pc) wr.heap.size x) (first
          | (with_reducible assumption)
          | (with_reducible exact HBD.out)
          | (with_reducible exact boxF_keep hfA HNP.out HNB.out HNA.out HBD.out)
          | fail) (first
          | (go_simp; go_at_call 31; refine HADD.out.mono ?_; rintro e w5 ⟨⟨fa, rfl⟩, RA, hIP5, hRA, hfA⟩)
          | fail)
        rename_i hHeld
        clear hHeld
        have HIP5 := Lib.hid hIP5; have HRA := Lib.hid hRA; have HFA := Lib.hid hfA
        clear hIP5 hRA hfA hlk
        go_wp2
        have hset := ((HST3.out.fr (Fr.refl N0 w3).drew fun _ _ => id).setL HLX.out (R' := RA) (l' := addIn l ⟨cm, ownW w x⟩) (by rw [HPT.out]; exact HIP5.out) HRA.out HFA.out).bound
        rw [sAft_snoc HLL.out HNT.out, ← HTK.out] at hset
        have hz5 := HFA.out.size
        have hrz : w3.drew.heap.size = w3.heap.size := rfl
        go_roundw
        case rel => exact ⟨k + 1, _, _, by omega, by go_num, hset, fun j hj => ⟨hj.1.elim (fun h => (HRB.out j h.1).1) (fun h => .inr (by omega)), hj.2⟩, HZN.out HE.out, ((HFR.out.then0 HF13.out).drew).trans HFA.out HRL2.out⟩
        case measure => simp [intOf]; omega
      · obtain ⟨E, hEE⟩ : ∃ E, addErr l ⟨cm, ownW w x⟩ = E := ⟨_, rfl⟩
        rw [show addPL l ⟨cm, ownW w x⟩ = (l, E) by unfold addPL; rw [if_neg hE, hEE]] at hadd
        rw [hEE] at hE
        have HADD := Lib.hid hadd; have HE := Lib.hid hEE
        have hne : (E != 0) = true := by simpa using hE
        have HE0 := Lib.hid hE
        clear hadd hEE hE
        go_wp2_with fail
        go_region_held3 (BoxF p #[.bool true, .map (some mL), .map (some mS), .map (some mF)] B (OpCells kd st cm va ows.length vc tp tt tl te tm to tr tc pr at_ ta nt tc' pa np pc) wr.heap.size x) (first
          | (with_reducible assumption)
          | (with_reducible exact HBD.out)
          | (with_reducible exact boxF_keep hfA HNP.out HNB.out HNA.out HBD.out)
          | fail) (first
          | (go_simp; go_at_call 31; refine HADD.out.mono ?_; rintro e w5 ⟨⟨fa, rfl⟩, RA, hIP5, hRA, hfA⟩)
          | fail)
        rename_i hHeld
        clear hHeld
        have HIP5 := Lib.hid hIP5; have HRA := Lib.hid hRA; have HFA := Lib.hid hfA
        clear hIP5 hRA hfA hlk
        go_wp2
        refine cut_useQ (n := 117) (Q := Q) (e := .ret) _ rfl ?_
        exact HZK.out E HE.out HE0.out _ _ rfl (((HFR.out.then0 HF13.out).drew).trans HFA.out HRL2.out)
    · obtain rfl : k = P.length := by omega
      have hst := hst.out
      rw [List.take_length] at hst
      have HST := Lib.hid hst; have HRB := Lib.hid hRb.out; have HZ := Lib.hid hz.out; have HFR := Lib.hid hfr
      clear hst hRb hz hfr
      go_wp2
      refine cut_use (n := 117) (K := K) _ rfl ?_
      exact HK.out _ _ R' m' rfl H3.out.symm H14.out.symm (fun j hj => HZ.out j hj hj) HST.out HRB.out HFR.out
end Go.Proofs.YtefepfiijoafbaaGreat
