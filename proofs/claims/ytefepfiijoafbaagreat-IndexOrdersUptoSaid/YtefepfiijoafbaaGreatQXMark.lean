/- tesseraref18.List.Mark, whole. -/
import Derived.Test.YtefepfiijoafbaaGreatQXMark2
import Derived.Test.YtefepfiijoafbaaGreatQXAdd
namespace Go.Proofs.YtefepfiijoafbaaGreat
open Go.RowKit Go.Shelf Go.Maps Go.Sort
attribute [local go_sem] Oper.semAt_some
attribute [local irreducible] wpQuiet
set_option linter.unusedVariables false
set_option linter.unusedSimpArgs false

/-- A list that is marked. -/
noncomputable def markPL (l : PL) (t : Int) (trs : List (Int × Val)) : PL := { l with marked := t, commits := (if trs = [] then [] else [⟨t, trs.map (wrT l.s.pred)⟩]) ++ l.commits.filter fun c => decide (t < c.time) }
theorem ParC.append {P : CmV → Cm → Prop} : ∀ {l l' : List CmV} {m m' : List Cm}, ParC P l m → ParC P l' m' → ParC P (l ++ l') (m ++ m')
  | _, _, _, _, .nil, h => h
  | _, _, _, _, .cons h t, h' => .cons h (t.append h')
theorem ParC.later {P : CmV → Cm → Prop} (hP : ∀ x y, P x y → x.time = y.time) (t : Int) : ∀ {l : List CmV} {m : List Cm}, ParC P l m → ParC P (laterC t l) (m.filter fun c => decide (t < c.time))
  | _, _, .nil => .nil
  | _, _, .cons (x := x) (y := y) h h' => by
    have e := hP _ _ h
    unfold laterC
    rw [List.filter_cons, List.filter_cons]
    by_cases hx : t < x.time
    · rw [if_pos (by simpa using hx), if_pos (by simpa [← e] using hx)]
      exact .cons h (h'.later hP t)
    · rw [if_neg (by simpa using hx), if_neg (by simpa [← e] using hx)]
      exact h'.later hP t
def XMarkPost (W : World) (R : Nat → Prop) (p : Nat) (r : PL) (e : Ending) (w' : World) : Prop :=
  e = .returned (.int .i64 0) ∧ IsXL w' (fun k => R k ∨ W.heap.size ≤ k) p r ∧ Fr (fun k => k = p) W w'
theorem xmark_done {W w' : World} {R : Nat → Prop} {p : Nat} {l : PL} {t : Int} {trs : List (Int × Val)} {cs os0 : List CmV} {vt vc' : Value} (hp : R p) (hpl : p < W.heap.size)
    (hvt : W.ownsRow 0 33 1 vt l.times.length (l.times.flatMap enc4) ∧ ∀ k, vt.ownBlock = some k → R k ∧ k ≠ p)
    (hcs : ParC (fun x y => x.time = y.time ∧ ∃ b, Wrs W b (.slice x.a x.n x.c) y.writes ∧ (0 < y.writes.length → R b ∧ b ≠ p)) cs l.commits)
    (ho : ParC (fun x y => x.time = y.time ∧ w'.ownsRow W.heap.size 61 8 (.slice x.a x.n x.c) y.writes.length (y.writes.flatMap Wr.enc)) os0 (if trs = [] then [] else [⟨t, trs.map (wrT l.s.pred)⟩]))
    (h1 : w'.heap[p]? = some (XCells l.s t vt vc')) (h3 : w'.ownsRow W.heap.size 80 2 vc' (os0 ++ laterC t cs).length ((os0 ++ laterC t cs).flatMap CmV.enc)) (hf : Fr (fun k => k = p) W w') :
    IsXL w' (fun k => R k ∨ W.heap.size ≤ k) p (markPL l t trs) := by
  have hpar : ParC (fun x y => x.time = y.time ∧ ∃ b, Wrs w' b (.slice x.a x.n x.c) y.writes ∧ (0 < y.writes.length → (R b ∨ W.heap.size ≤ b) ∧ b ≠ p)) (os0 ++ laterC t cs) (markPL l t trs).commits := by
    refine ParC.append (ho.mono ?_) ((hcs.later (fun _ _ h => h.1) t).mono ?_)
    · rintro x y ⟨e, hr⟩
      obtain ⟨b, hb, hw⟩ := rowsK_of_row (enc := Wr.enc) (n := 8) (fun _ => rfl) (by decide) hr
      exact ⟨e, b, hw, fun _ => ⟨.inr hb, by omega⟩⟩
    · rintro x y ⟨e, b, hb, hr⟩
      exact ⟨e, b, rowsK_frT (enc := Wr.enc) (n := 8) (fun _ => rfl) hb hf fun h0 => (hr h0).2, fun h0 => ⟨.inl (hr h0).1, (hr h0).2⟩⟩
  refine ⟨vt, vc', _, h1, .inl hp, ⟨ownsRow_fr hvt.1 hf fun k hk e => (hvt.2 k hk).2 e, fun k hk => ⟨.inl (hvt.2 k hk).1, (hvt.2 k hk).2⟩⟩, ⟨ownsRow_base h3 (Nat.zero_le _), hpar.length, fun k hk => ?_⟩, fun i hi hi' => hpar.get i hi hi'⟩
  have := (ownsRow_lt h3 k hk).1
  exact ⟨.inr this, by omega⟩
theorem mk_snoc {q : ByteArray} {L : List (Int × Val)} (x : Int × Val) : (L.map (wrT q)).flatMap Wr.enc ++ (wrT q x).enc = ((L ++ [x]).map (wrT q)).flatMap Wr.enc := by simp
set_option maxRecDepth 100000 in
set_option maxHeartbeats 8000000 in
theorem r18Mark_any (W : World) (R : Nat → Prop) (p : Nat) (l : PL) (N : Nat) (h : IsXL W R p l) (hl : l.AtOk N) (hN : N ≤ 900000000) (hrs : RisesBy Cm.time l.commits) (t : Int) (ht : ¬ t < l.marked) (ks : List Int) (hks : NodesOf (haveAt l t) ks) :
    Calls Tryz.prog 80 #[.pointer (some ⟨p, 0, none⟩), .int .u64 t] W (XMarkPost W R p (markPL l t (trsOf (haveAt l t) ks))) := by
  obtain ⟨i0, hi, hz0, hz1, hz2⟩ := info_parts insC_info
  have h0 := h
  obtain ⟨vt, vc, cs, h1, hp, hvt, ⟨h5, h6, h7⟩, h8⟩ := h
  have hpl := lt_of_block h1
  have hcs : ParC (fun x y => x.time = y.time ∧ ∃ b, Wrs W b (.slice x.a x.n x.c) y.writes ∧ (0 < y.writes.length → R b ∧ b ≠ p)) cs l.commits := parC_of h6 h8
  obtain ⟨bc, -, hrc⟩ := rowsK_of_row (enc := CmV.enc) (n := 2) insC_len (by decide) h5
  have hbcl : 0 < cs.length → bc < W.heap.size := fun h0 => by
    obtain ⟨a, off, cap, -, -, -, -, -, g⟩ := hrc
    exact lt_of_cell (p := ⟨bc, off + 0 * 2 + 0, none⟩) (g 0 h0 0 (by decide))
  have hclen : cs.length ≤ 1000000000 := by have := hl.commits; omega
  have htr : ∀ W', Fr N0 W W' → Calls Tryz.prog 139 #[.pointer (some ⟨p, 0, none⟩), .int .u64 t] W' fun e w' => ∃ v', e = .returned v' ∧ w'.ownsRow W'.heap.size 59 7 v' (trsOf (haveAt l t) ks).length ((trsOf (haveAt l t) ks).flatMap (trE l.s.pred)) ∧ Fr N0 W' w' := fun W' hf => by
    obtain ⟨a, bb, off, cap, hx⟩ := (h0.fr hf fun _ _ h => h).read
    exact xtriples_any W' p l a bb off cap N hx hl hN hrs t ks hks
  have htl : (trsOf (haveAt l t) ks).length ≤ N := trsOf_len hl t hks.rises
  obtain ⟨trs, htrs⟩ : ∃ trs, trsOf (haveAt l t) ks = trs := ⟨_, rfl⟩
  rw [htrs] at htl ⊢
  simp only [htrs] at htr
  obtain ⟨mk, hmk⟩ : ∃ mk, l.marked = mk := ⟨_, rfl⟩
  rw [hmk] at h1 ht
  obtain ⟨Pst, hPst⟩ : ∃ Pst, XMarkPost W R p (markPL l t trs) = Pst := ⟨_, rfl⟩
  have hpost : ∀ w' vc' os0, ParC (fun x y => x.time = y.time ∧ w'.ownsRow W.heap.size 61 8 (.slice x.a x.n x.c) y.writes.length (y.writes.flatMap Wr.enc)) os0 (if trs = [] then [] else [⟨t, trs.map (wrT l.s.pred)⟩]) → w'.heap[p]? = some (XCells l.s t vt vc') → w'.ownsRow W.heap.size 80 2 vc' (os0 ++ laterC t cs).length ((os0 ++ laterC t cs).flatMap CmV.enc) → Fr (fun k => k = p) W w' → Pst (.returned (.int .i64 0)) w' := fun w' vc' os0 ho h1 h3 hf => by
    rw [← hPst]
    exact ⟨rfl, xmark_done hp hpl hvt hcs ho h1 h3 hf, hf⟩
  rw [hPst]
  obtain ⟨pr, hpr⟩ : ∃ pr, l.s.pred = pr := ⟨_, rfl⟩
  obtain ⟨se, hse⟩ : ∃ se, l.s = se := ⟨_, rfl⟩
  simp only [hpr] at htr hpost
  simp only [hse] at hpost h1
  obtain ⟨W0, hW0⟩ : ∃ W0, W.alloc (.cells #[.int .u64 t, .slice none 0 0] 80) = W0 := ⟨_, rfl⟩
  have hf0 : Fr N0 W W0 := by rw [← hW0]; exact (Fr.refl _ _).alloc _
  have hB : W0.heap[W.heap.size]? = some (.cells #[.int .u64 t, .slice none 0 0] 80 (0, 0)) := by rw [← hW0]; exact World.alloc_heap_new W _
  have HTR := Lib.hid htr; have HPOST := Lib.hid hpost; have HP1 := Lib.hid h1; have HRC := Lib.hid hrc; have HF0 := Lib.hid hf0; have HB := Lib.hid hB; have HBCL := Lib.hid hbcl
  obtain ⟨m, n, lp⟩ := box_cells h1
  clear h0 h1 hp hvt h5 h6 h7 h8 hcs hrc hbcl htr hpost hPst hf0 hB hl hrs hks htrs hmk hpr hse
  go_enter Tryz.func80, Tryz.ntmps80
  go_wp2_with fail
  refine (HTR.out _ HF0.out).mono ?_
  rintro e w1 ⟨v1, rfl, hr1, hf1⟩
  obtain ⟨g, hg, hrk⟩ := rowsK_of_row (enc := trE pr) (n := 7) (trE_len pr) (by decide) hr1
  obtain ⟨va, go, vcp, rfl, s1, s2, s3, -, s5⟩ := hrk
  obtain ⟨nt, hnt⟩ : ∃ nt, trs.length = nt := ⟨_, rfl⟩
  have HNT := Lib.hid hnt; have HS5 := Lib.hid s5; have HF1 := Lib.hid (HF0.out.then0 hf1); have HF01 := Lib.hid hf1
  have hB1 := (hf1.at (k := W.heap.size) id (lt_of_block HB.out)).trans HB.out
  have hB1l := lt_of_block hB1
  have HB1 := Lib.hid hB1
  have hlB := lt_of_block HB.out
  rw [hnt] at s1 s3 htl
  simp only [hnt]
  clear hr1 s5 hnt hf1 hB1 HB HTR m n
  go_wp2_with fail
  rename_i K1 hK1
  have HK1 := Lib.hid hK1
  clear hK1
  go_loopw [7] (fun iv wr => ∃ (i : Nat) (oa : Option Addr) (oc : Nat), i ≤ nt ∧ iv = .int .i64 i ∧ Hid (wr.heap[W.heap.size]? = some (.cells #[.int .u64 t, .slice oa i oc] 80 (0, 0))) ∧ Hid (wr.ownsRow w1.heap.size 61 8 (.slice oa i oc) i (((trs.take i).map (wrT pr)).flatMap Wr.enc)) ∧ Hid (Fr (fun q => q = W.heap.size ∨ w1.heap.size ≤ q) w1 wr)) (fun iv _ => nt - (intOf iv).toNat)
  case atStart => exact ⟨0, none, 0, Nat.zero_le _, by first | rfl | go_num, HB1.out, World.ownsRow_nil _ _ _ _, Fr.refl _ _⟩
  case round =>
    obtain ⟨i, oa, oc, hi', rfl, hb, hrow, hfr⟩ := hrel
    by_cases hlt : i < nt
    · obtain rfl := s3 (by omega)
      have hix : i < trs.length := by rw [HNT.out]; exact hlt
      have hgl : g < w1.heap.size := lt_of_cell (HS5.out i hix 0 (by decide))
      have htp : ∀ j, j < 7 → wr.cell? ⟨g, go + i * 7 + j, none⟩ = (trE pr (trs[i].1, trs[i].2))[j]? := fun j hj => by
        have h1 := HS5.out i hix j hj
        rw [← h1]
        exact cell_same (p := ⟨g, go + i * 7 + j, none⟩) (hfr.out.at (k := g) (by omega) hgl)
      have hsn := mk_snoc (q := pr) (L := trs.take i) trs[i]
      rw [← List.take_succ_eq_append_getElem hix] at hsn
      have hlt2 := ownsRow_lt hrow.out
      have nB : (Value.slice oa i oc).ownBlock ≠ some W.heap.size := fun e => by have := (hlt2 _ e).1; omega
      have ng : (Value.slice oa i oc).ownBlock ≠ some g := fun e => by have := (hlt2 _ e).1; omega
      have hi1 : (i : Int) < (nt : Int) := by omega
      have HTP := Lib.hid htp; have HSN := Lib.hid hsn; have HBW := Lib.hid hb.out; have HROW := Lib.hid hrow.out; have HFR := Lib.hid hfr.out; have HNB := Lib.hid nB; have HNG := Lib.hid ng
      clear htp hsn hb hrow hfr nB ng hlt2
      refine seq_split fun K2 hK2 => ?_
      have HK2 := Lib.hid hK2
      clear hK2
      go_wp2_with fail
      refine HK2.out _ _ ?_
      refine seq_split fun Kc hKc => ?_
      refine wp_block ?_
      refine wp_frA (n := 81) _ rfl ?_
      refine wp_inBS (mkR9 (K := Kc) wr _ W.heap.size w1.heap.size g go i nt vcp i oc oa t pr trs[i].2 trs[i].1 _ rfl rfl rfl hlt HBW.out HTP.out HROW.out HFR.out.size (by omega) HNB.out HNG.out fun f' W' oa' oc' kp hB' hP hF hN => ?_)
      refine hKc _ _ ?_
      have z0 := kp 0 (by decide); have z1 := kp 1 (by decide); have z2 := kp 2 (by decide); have z3 := kp 3 (by decide); have z4 := kp 4 (by decide); have z5 := kp 5 (by decide); have z6 := kp 6 (by decide); have z7 := kp 7 (by decide); have z8 := kp 8 (by decide); have z9 := kp 9 (by decide); have z10 := kp 10 (by decide); have z11 := kp 11 (by decide); have z12 := kp 12 (by decide); have z13 := kp 13 (by decide); have z14 := kp 14 (by decide); have z15 := kp 15 (by decide); have z16 := kp 16 (by decide); have z17 := kp 17 (by decide); have z18 := kp 18 (by decide); have z19 := kp 19 (by decide); have z20 := kp 20 (by decide); have z21 := kp 21 (by decide); have z22 := kp 22 (by decide); have z23 := kp 23 (by decide); have z24 := kp 24 (by decide); have z37 := kp 37 (by decide); have z38 := kp 38 (by decide); have z39 := kp 39 (by decide); have z40 := kp 40 (by decide); have z41 := kp 41 (by decide); have z42 := kp 42 (by decide); have z43 := kp 43 (by decide); have z44 := kp 44 (by decide); have z45 := kp 45 (by decide); have z46 := kp 46 (by decide); have z47 := kp 47 (by decide); have z48 := kp 48 (by decide); have z49 := kp 49 (by decide); have z50 := kp 50 (by decide); have z51 := kp 51 (by decide); have z52 := kp 52 (by decide); have z53 := kp 53 (by decide); have z54 := kp 54 (by decide); have z55 := kp 55 (by decide); have z56 := kp 56 (by decide); have z57 := kp 57 (by decide); have z58 := kp 58 (by decide); have z59 := kp 59 (by decide); have z60 := kp 60 (by decide); have z61 := kp 61 (by decide); have z62 := kp 62 (by decide); have z63 := kp 63 (by decide); have z64 := kp 64 (by decide); have z65 := kp 65 (by decide); have z66 := kp 66 (by decide); have z67 := kp 67 (by decide); have z68 := kp 68 (by decide); have z69 := kp 69 (by decide); have z70 := kp 70 (by decide); have z71 := kp 71 (by decide); have z72 := kp 72 (by decide); have z73 := kp 73 (by decide); have z74 := kp 74 (by decide); have z75 := kp 75 (by decide); have z76 := kp 76 (by decide); have z77 := kp 77 (by decide); have z78 := kp 78 (by decide); have z79 := kp 79 (by decide); have z80 := kp 80 (by decide)
      rw [show (trs[i].1, trs[i].2) = trs[i] from rfl, HSN.out] at hP
      have HP := Lib.hid hP; have HF := Lib.hid hF; have HBP := Lib.hid hB'
      clear kp hP hF hN hKc hB'
      obtain ⟨f, hf⟩ : ∃ f, f = f' := ⟨_, rfl⟩
      subst hf
      show Code.wp _ _ _ { tmps := #[f 0, f 1, f 2, f 3, f 4, f 5, f 6, f 7, f 8, f 9, f 10, f 11, f 12, f 13, f 14, f 15, f 16, f 17, f 18, f 19, f 20, f 21, f 22, f 23, f 24, f 25, f 26, f 27, f 28, f 29, f 30, f 31, f 32, f 33, f 34, f 35, f 36, f 37, f 38, f 39, f 40, f 41, f 42, f 43, f 44, f 45, f 46, f 47, f 48, f 49, f 50, f 51, f 52, f 53, f 54, f 55, f 56, f 57, f 58, f 59, f 60, f 61, f 62, f 63, f 64, f 65, f 66, f 67, f 68, f 69, f 70, f 71, f 72, f 73, f 74, f 75, f 76, f 77, f 78, f 79, f 80], defers := [] } _
      rw [z0, z1, z2, z3, z4, z5, z6, z7, z8, z9, z10, z11, z12, z13, z14, z15, z16, z17, z18, z19, z20, z21, z22, z23, z24, z37, z38, z39, z40, z41, z42, z43, z44, z45, z46, z47, z48, z49, z50, z51, z52, z53, z54, z55, z56, z57, z58, z59, z60, z61, z62, z63, z64, z65, z66, z67, z68, z69, z70, z71, z72, z73, z74, z75, z76, z77, z78, z79, z80]
      clear z0 z1 z2 z3 z4 z5 z6 z7 z8 z9 z10 z11 z12 z13 z14 z15 z16 z17 z18 z19 z20 z21 z22 z23 z24 z37 z38 z39 z40 z41 z42 z43 z44 z45 z46 z47 z48 z49 z50 z51 z52 z53 z54 z55 z56 z57 z58 z59 z60 z61 z62 z63 z64 z65 z66 z67 z68 z69 z70 z71 z72 z73 z74 z75 z76 z77 z78 z79 z80
      go_wp2_with fail
      exact ⟨⟨i + 1, oa', oc', by omega, by first | rfl | go_num, Lib.hid HBP.out, Lib.hid HP.out, Lib.hid (HFR.out.trans HF.out fun q hq => .inl (hq.imp id fun hq => (ownsRow_lt HROW.out _ hq).1))⟩, by simp [intOf]; omega⟩
    · obtain rfl : i = nt := by omega
      have hfull : trs.take i = trs := by rw [← HNT.out, List.take_length]
      have hrw := hrow.out
      rw [hfull] at hrw
      have HBW := Lib.hid hb.out; have HROW := Lib.hid hrw; have HFR := Lib.hid hfr.out
      have hi1 : ¬ (i : Int) < (i : Int) := by omega
      obtain ⟨mw, nw, lw⟩ := box_cells hb.out
      clear hb hrow hrw hfr hfull
      go_wp2_with fail
      refine HK1.out _ _ ?_
      refine seq_split fun K2 hK2 => ?_
      have HK2 := Lib.hid hK2
      clear hK2
      go_wp2_with fail
      refine HK2.out _ _ ?_
      refine seq_split fun K3 hK3 => ?_
      have HK3 := Lib.hid hK3
      clear hK3
      have hFW1 : Fr N0 W wr := (HF1.out.trans HFR.out fun q hq => .inr (hq.elim (fun e => by omega) fun e => Nat.le_trans HF1.out.size e))
      have hzz1 := HF1.out.size
      have hzr := HFR.out.size
      have hrow2 : wr.ownsRow W.heap.size 61 8 (.slice oa i oc) i ((trs.map (wrT pr)).flatMap Wr.enc) := ownsRow_base HROW.out hzz1
      have HFW1 := Lib.hid hFW1; have HROW2 := Lib.hid hrow2
      have hpw := (hFW1.at (k := p) id (lt_of_block HP1.out)).trans HP1.out
      have HPW := Lib.hid hpw
      clear hFW1 hrow2 hpw
      have htail : ∀ (os0 : List CmV) (f : Nat → Value) W' (ov : Value), os0.length ≤ 1 → ParC (fun x y => x.time = y.time ∧ wr.ownsRow W.heap.size 61 8 (.slice x.a x.n x.c) y.writes.length (y.writes.flatMap Wr.enc)) os0 (if trs = [] then [] else [⟨t, trs.map (wrT pr)⟩]) → f 0 = .pointer (some ⟨p, 0, none⟩) → f 1 = .int .u64 t → f 8 = ov → W'.ownsRow wr.heap.size 80 2 ov os0.length (os0.flatMap CmV.enc) → Fr (fun q => wr.heap.size ≤ q) wr W' → Code.wp Tryz.prog (mkB 8) (bodyPost Tryz.prog Tryz.f80 Pst) (frA 81 f) W' := fun os0 f W' ov hos hpc h0 h1 h8 hr hf => by
        have hfx : Fr N0 wr W' := fr_ge hf (Nat.le_refl _)
        refine mkTail W' f p wr.heap.size bc i se mk vt vc ov t cs os0 h0 h1 h8 ((hfx.at (k := p) id (lt_of_block HPW.out)).trans HPW.out) (RowsK.fr0 (enc := CmV.enc) (n := 2) (fun _ => rfl) HRC.out (HFW1.out.then0 hfx)) hclen hos hr hf.size (by omega) (fun h => by have := HBCL.out h; omega) fun w' vc' hp' hr' hF' => ?_
        have hFF : Fr (fun q => q = p ∨ wr.heap.size ≤ q) wr w' := (hf.mono fun q h => .inl (.inr h)).trans hF' fun q h => .inl h
        refine HPOST.out w' vc' os0 (hpc.mono fun x y hxy => ⟨hxy.1, ?_⟩) hp' (ownsRow_base hr' (by omega)) ((HFW1.out.mono fun _ h => h.elim : Fr (fun k => k = p) W wr).trans hFF fun q h => h.imp id fun h => by omega)
        exact ownsRow_fr hxy.2 hFF fun k hk e => by
          have h3 := ownsRow_lt hxy.2 k hk
          omega
      have HTAIL := Lib.hid htail
      clear htail
      by_cases hn0 : i = 0
      · subst hn0
        have htn : trs = [] := List.eq_nil_of_length_eq_zero HNT.out
        go_wp2_with fail
        refine HK3.out _ _ ?_
        refine wp_frA (n := 81) _ rfl ?_
        refine HTAIL.out [] _ _ _ (by simp) ?_ rfl rfl rfl (World.ownsRow_nil _ _ _ _) (Fr.refl _ _)
        rw [if_pos htn]
        exact .nil
      · have htn : ¬ trs = [] := fun e => hn0 (by have := HNT.out; rw [e] at this; exact this.symm)
        have hi0 : (0 : Int) < (i : Int) := by omega
        obtain ⟨b0, hb0⟩ : ∃ b0, wr.heap.size = b0 := ⟨_, rfl⟩
        have HB0 := Lib.hid hb0
        have hb0' : b0 ≤ wr.heap.size := Nat.le_of_eq hb0.symm
        have hnil : wr.ownsRow b0 80 2 (.slice none 0 0) 0 [] := World.ownsRow_nil _ _ _ _
        clear hb0
        go_wp2_with (at_builtin; go_loud (refine wpList_append_lies _ rfl _ _ 36 rfl (b0) 80 i0 (.agg #[.int .u64 0, .slice none 0 0]) 2 32 Tryz.underlying36 hi hz0 hz1 hz2 rfl (by decide) (.slice none 0 0) (0) _ rfl (hnil.alloc _) ⟨wr.heap.size, 0, none⟩ 1 1 ([.int .u64 t, .slice oa i oc]) rfl rfl (World.news_of_block (cs := ([.int .u64 t, .slice oa i oc]).toArray) (t := 80) (fr := (0, 0)) (heap_alloc_new wr _)) (by simp [Value.oneCell']) (by omega) (by unfold maxLen; omega) (by omega) (by simp; omega) (wr.heap.size + 1) (by simp) ?_); intro g1 cap1 w3 hown3 hgrow3 hfresh3 hlt3)
        have hfa : Fr (fun j => (Value.slice none 0 0).ownBlock = some j) _ w3 := (Fr.refl _ _).grown hgrow3 fun j e => .inl e
        refine HK3.out _ _ ?_
        refine wp_frA (n := 81) _ rfl ?_
        refine HTAIL.out [⟨t, oa, i, oc⟩] _ _ _ (by simp) ?_ rfl rfl rfl ?_ (((Fr.refl _ wr).alloc _).trans hfa fun j hj => by cases hj)
        · rw [if_neg htn]
          refine .cons ⟨rfl, ?_⟩ .nil
          show wr.ownsRow W.heap.size 61 8 (.slice oa i oc) (trs.map (wrT pr)).length _
          rw [List.length_map, HNT.out]
          exact HROW2.out
        · rw [HB0.out]; simpa [CmV.enc] using hown3
end Go.Proofs.YtefepfiijoafbaaGreat
