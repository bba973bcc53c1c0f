/- slices.Equal at writes (equal ones); Schema. Commits: a copy of a list's commits. Copy: another list. -/
import Derived.Deep.QuietTactic
import Derived.Deep.RegionHeld3
import Derived.Test.YtefepfiijoafbaaGreatQEq4
namespace Go.Proofs.YtefepfiijoafbaaGreat
open Go.RowKit Go.Shelf
attribute [local go_sem] Oper.semAt_some
set_option linter.unusedVariables false
set_option linter.unusedSimpArgs false

set_option maxRecDepth 100000 in
set_option maxHeartbeats 2000000 in
theorem eqW_any (w : World) (b c : Nat) (v z : Value) (xs : List Wr) (h : Wrs w b v xs) (h' : Wrs w c z xs) (hl : xs.length ≤ 1000000) :
    Calls Tryz.prog 58 #[v, z] w fun e w' => e = .returned (.bool true) ∧ Fr N0 w w' := by
  obtain ⟨a, off, cap, rfl, h1, h2, h3, h4, h5⟩ := h
  obtain ⟨a', off', cap', rfl, h1', h2', h3', h4', h5'⟩ := h'
  have HC := Lib.hid h5; have HC' := Lib.hid h5'
  clear h5 h4 h5' h4'
  go_enter Tryz.func58, Tryz.ntmps58
  go_wp2
  go_loopw [13] (fun i wr => ∃ k : Nat, k ≤ xs.length ∧ i = .int .i64 k ∧ Fr N0 w wr) (fun i _ => xs.length - (intOf i).toNat)
  case atStart => exact ⟨0, Nat.zero_le _, rfl, Fr.refl _ _⟩
  case round =>
    obtain ⟨k, hk, rfl, hfr⟩ := hrel
    by_cases hlt : k < xs.length
    · obtain rfl := h3 (by omega)
      obtain rfl := h3' (by omega)
      obtain ⟨f0, f1, f2, f3, f4, f5, f6, f7⟩ := wr_cells (W := w) (HC.out k hlt)
      obtain ⟨g0, g1, g2, g3, g4, g5, g6, g7⟩ := wr_cells (W := w) (HC'.out k hlt)
      replace f0 := hfr.cell id f0; replace g0 := hfr.cell id g0; replace f1 := hfr.cell id f1; replace g1 := hfr.cell id g1; replace f2 := hfr.cell id f2; replace g2 := hfr.cell id g2; replace f3 := hfr.cell id f3; replace g3 := hfr.cell id g3; replace f4 := hfr.cell id f4; replace g4 := hfr.cell id g4; replace f5 := hfr.cell id f5; replace g5 := hfr.cell id g5; replace f6 := hfr.cell id f6; replace g6 := hfr.cell id g6; replace f7 := hfr.cell id f7; replace g7 := hfr.cell id g7
      obtain ⟨x, hx⟩ : ∃ x, xs[k] = x := ⟨_, rfl⟩
      simp only [hx] at f0 f1 f2 f3 f4 f5 f6 f7 g0 g1 g2 g3 g4 g5 g6 g7
      have hki : (k : Int) < (xs.length : Int) := by omega
      clear hx
      go_wp2
      all_goals try (go_quiet (fail); go_wp2)
      go_roundw
      case rel => exact ⟨k + 1, by omega, by go_num, by first | exact hfr | exact hfr.drewN _⟩
      case measure => simp [intOf]; omega
    · go_wp2
      go_ret
      exact ⟨rfl, hfr⟩


theorem schC_size : (Tryz.prog.info? 32).map (·.size) = some 8 := by kernel_rfl
set_option maxRecDepth 100000 in
set_option maxHeartbeats 2000000 in
theorem schema_any (W : World) (R : Nat → Prop) (p : Nat) (l : PL) (h : IsPL W R p l) (hs : 0 < l.s.pred.size) : Calls Tryz.prog 81 #[.pointer (some ⟨p, 0, none⟩)] W fun e w' => e = .returned (.agg l.s.enc.toArray) ∧ Fr N0 W w' := by
  obtain ⟨vt, vc, cs, h1, -⟩ := h
  obtain ⟨⟨sp, st, sl, se, sm, so, sr, sc⟩, mk, ts, cms⟩ := l
  simp only [Sch.enc] at h1 hs ⊢
  have lt := lt_of_block h1
  obtain ⟨W0, hW0⟩ : ∃ W0, W.alloc (Obj.cells #[.string ⟨#[]⟩, .int .u8 0, .bool false, .bool false, .bool false, .bool false, .bool false, .bool false] 32) = W0 := ⟨_, rfl⟩
  have hf0 : Fr N0 W W0 := by rw [← hW0]; exact (Fr.refl _ _).alloc _
  have hb0 : W0.heap[W.heap.size]? = some (Obj.cells #[.string ⟨#[]⟩, .int .u8 0, .bool false, .bool false, .bool false, .bool false, .bool false, .bool false] 32 (0, 0)) := by rw [← hW0]; exact World.alloc_heap_new W _
  have hb1 := (hf0.at id lt).trans h1
  obtain ⟨m, n, -⟩ := box_cells hb1
  have hn := pNone_any W0 p sp (m 0) hs
  have HN := Lib.hid hn; have H1 := Lib.hid hb1; have H0 := Lib.hid hb0; have HF0 := Lib.hid hf0
  have hl0 := lt_of_block hb0; have hl1 := lt_of_block hb1
  clear hn h1 m n hb1 hb0 hf0
  go_enter Tryz.func81, Tryz.ntmps81
  go_wp2_with fail
  try rw [hW0]
  refine HN.out.mono ?_
  rintro e w1 ⟨rfl, hf1⟩
  clear hW0
  have hb0 := (hf1.at id hl0).trans H0.out
  have hb1 := (hf1.at id hl1).trans H1.out
  obtain ⟨m1, n1, l1⟩ := box_cells hb1
  go_wp2_with (go_loud (refine wpList_store_row rfl 32 _ _ rfl W.heap.size _ rfl rfl 32 _ hb0 schC_size rfl (by simp [Value.oneCell']) ?_))
  refine bodyPost_ret_by (results_cell_row rfl _ _ W.heap.size 32 _ (0, 0) _ rfl (setRow_heap _ _ _ _ _ _ hb0) Tryz.underlying32 rfl schC_size) rfl ?_
  exact ⟨rfl, (HF0.out.then0 hf1).trans (fr_setRow _ _ _) fun k hk => .inr (by rw [hk]; exact Nat.le_refl _)⟩
end Go.Proofs.YtefepfiijoafbaaGreat
namespace Go.Proofs.YtefepfiijoafbaaGreat
open Go.RowKit Go.Shelf
attribute [local go_sem] Oper.semAt_some
set_option linter.unusedVariables false
set_option linter.unusedSimpArgs false

/-- The commits of ds, over their rows at or above a base, read as cs; the rows lie apart from one block. -/
def CmsAt (W : World) (base : Nat) (ob : Option Nat) (ds : List CmV) (cs : List Cm) : Prop :=
  ∀ i (h : i < ds.length) (h' : i < cs.length), ds[i].time = cs[i].time ∧ W.ownsRow base 61 8 (.slice ds[i].a ds[i].n ds[i].c) cs[i].writes.length (cs[i].writes.flatMap Wr.enc) ∧ ∀ q, (Value.slice ds[i].a ds[i].n ds[i].c).ownBlock = some q → ob ≠ some q

set_option maxRecDepth 100000 in
set_option maxHeartbeats 2000000 in
theorem commits_any (W : World) (R : Nat → Prop) (p : Nat) (l : PL) (h : IsPL W R p l) (hs : 0 < l.s.pred.size) (hl : l.commits.length ≤ 1000000) (hw : ∀ c ∈ l.commits, c.writes.length ≤ 1000000) :
    Calls Tryz.prog 20 #[.pointer (some ⟨p, 0, none⟩)] W fun e w' => ∃ v' ds, e = .returned v' ∧ w'.ownsRow W.heap.size 80 2 v' l.commits.length (ds.flatMap CmV.enc) ∧ ds.length = l.commits.length ∧ CmsAt w' W.heap.size v'.ownBlock ds l.commits ∧ Fr N0 W w' := by
  obtain ⟨vt, vc, cs, h1, -, -, ⟨h3, h4, -⟩, h5⟩ := h
  obtain ⟨i0, hi, hz0, hz1, hz2⟩ := info_parts insC_info
  obtain ⟨m, n, lt⟩ := box_cells h1
  have hn := pNone_any W p l.s.pred (m 0) hs
  obtain ⟨bb, -, ob, ooff, ocap, rfl, r1, r2, r3, -, r6⟩ := rowsK_of_row (enc := CmV.enc) (n := 2) insC_len (by decide) h3
  have hcall : ∀ i (h : i < cs.length) (h' : i < l.commits.length) (W' : World), Fr N0 W W' → Calls Tryz.prog 72 #[.agg #[.int .u64 cs[i].time, .slice cs[i].a cs[i].n cs[i].c]] W' fun e w' => ∃ c' : CmV, c'.time = l.commits[i].time ∧ e = .returned (.agg c'.enc.toArray) ∧ w'.ownsRow W'.heap.size 61 8 (.slice c'.a c'.n c'.c) l.commits[i].writes.length (l.commits[i].writes.flatMap Wr.enc) ∧ Fr N0 W' w' := fun i hi hi' W' hf => by
    obtain ⟨e, b, hb, -⟩ := h5 i hi hi'
    refine (own_any W' b cs[i] l.commits[i].writes (hb.fr0 hf) (hw _ (List.getElem_mem hi'))).mono ?_
    rintro e' w' ⟨c', g1, g2⟩
    exact ⟨c', g1.trans e, g2⟩
  have HN := Lib.hid hn; have H1 := Lib.hid h1; have HC := Lib.hid hcall; have HR6 := Lib.hid r6
  clear hn h1 m n hcall h3 h5 r6
  go_enter Tryz.func20, Tryz.ntmps20
  go_wp2_with (go_at_call 71; refine HN.out.mono ?_; rintro e w1 ⟨rfl, hf1⟩; have hb := (hf1.at id lt).trans H1.out; obtain ⟨m, -, -⟩ := box_cells hb)
  have HF1 := Lib.hid hf1
  clear hf1 hb m
  go_loopw [3, 13] (fun ov jv wr => ∃ (k : Nat) (ds : List CmV), k ≤ cs.length ∧ ds.length = k ∧ jv = .int .i64 k ∧ wr.ownsRow W.heap.size 80 2 ov k (ds.flatMap CmV.enc) ∧ Hid (CmsAt wr W.heap.size ov.ownBlock ds l.commits) ∧ Fr N0 W wr) (fun _ jv _ => cs.length - (intOf jv).toNat)
  case atStart => exact ⟨0, [], Nat.zero_le _, rfl, rfl, World.ownsRow_nil _ _ _ _, fun i h => by simp at h, HF1.out⟩
  case round =>
    obtain ⟨k, ds, hk, hdl, rfl, hrow, hcm, hfr⟩ := hrel
    by_cases hlt : k < cs.length
    · obtain rfl := r3 (by omega)
      have e0 := hfr.cell (fun h => h) (HR6.out _ hlt 0 (by decide))
      have e1 := hfr.cell (fun h => h) (HR6.out _ hlt 1 (by decide))
      simp only [CmV.enc, List.getElem?_cons_zero, List.getElem?_cons_succ, Nat.add_zero] at e0 e1
      have hlt' : k < l.commits.length := by omega
      have hcall := HC.out k hlt hlt'
      obtain ⟨ck, hck⟩ : ∃ c, cs[k] = c := ⟨_, rfl⟩
      obtain ⟨xs, hxs⟩ : ∃ x, l.commits[k].writes = x := ⟨_, rfl⟩
      obtain ⟨tm, htm⟩ : ∃ x, l.commits[k].time = x := ⟨_, rfl⟩
      simp only [hck, hxs, htm] at e0 e1 hcall
      obtain ⟨f, sa, sn, sc⟩ := ck
      simp only [CmV.enc] at e0 e1 hcall
      have hnext : ∀ (W1 W2 : World) (ov ov' : Option Nat) (T : Nat → Prop) (c' : CmV), CmsAt W1 W.heap.size ov ds l.commits → Fr T W1 W2 → (∀ q, T q → ov = some q ∨ W1.heap.size ≤ q) → (∀ q, ov' = some q → ov = some q ∨ W1.heap.size ≤ q) → c'.time = tm → W2.ownsRow W.heap.size 61 8 (.slice c'.a c'.n c'.c) xs.length (xs.flatMap Wr.enc) → (∀ q, (Value.slice c'.a c'.n c'.c).ownBlock = some q → ov' ≠ some q) → CmsAt W2 W.heap.size ov' (ds ++ [c']) l.commits := by
        intro W1 W2 ov ov' T c' g1 g2 g3 g4 g5 g6 g7 i hi hi'
        by_cases hik : i < ds.length
        · rw [List.getElem_append_left hik]
          obtain ⟨q1, q2, q3⟩ := g1 i hik hi'
          have hlt2 := fun q hq => (ownsRow_lt q2 q hq).2
          refine ⟨q1, ownsRow_fr q2 g2 fun q hq hT => (g3 q hT).elim (q3 q hq) fun h => ?_, fun q hq ho => (g4 q ho).elim (q3 q hq) fun h => ?_⟩
          all_goals have := hlt2 q hq; omega
        · have hie : i = k := by simp at hi; omega
          subst hie
          have : (ds ++ [c'])[i] = c' := by rw [List.getElem_append_right (by omega)]; simp [hdl]
          rw [this, hxs, htm]
          exact ⟨g5, g6, g7⟩
      have HNEXT := Lib.hid hnext
      have hki : (k : Int) < (cs.length : Int) := by omega
      have HCALL := Lib.hid hcall; have HROW := Lib.hid hrow; have HCM := Lib.hid hcm.out; have HFR := Lib.hid hfr
      clear hcall hrow hcm hfr hck hxs htm hnext
      go_wp2_with (first
        | (go_at_call 72; refine (HCALL.out _ (HFR.out.alloc _)).mono ?_; rintro e w2 ⟨c', hct, rfl, hcr, hf2⟩; have hr2 := ownsRow_fr HROW.out (((Fr.refl N0 wr).alloc _).then0 hf2) fun _ _ => id; have hzz := hf2.size; simp only [World.size_alloc] at hzz; have hz3 := HFR.out.size)
        | (at_builtin; go_loud (refine wpList_append_lies _ rfl _ _ 36 rfl (W.heap.size) 80 i0 (.agg #[.int .u64 0, .slice none 0 0]) 2 32 Tryz.underlying36 hi hz0 hz1 hz2 rfl (by decide) (u3) (k) _ rfl (hr2.alloc _) ⟨w2.heap.size, 0, none⟩ 1 1 ([.int .u64 tm, .slice c'.a c'.n c'.c]) rfl rfl (World.news_of_block (cs := ([.int .u64 tm, .slice c'.a c'.n c'.c]).toArray) (t := 80) (fr := (0, 0)) (heap_alloc_new w2 _)) (by simp [Value.oneCell']) (by omega) (by unfold maxLen; omega) (by omega) (by simp; omega) (w2.heap.size + 1) (by simp) ?_); intro g2 gc w5 hown hgrow hfresh hlt1))
      go_roundw
      case rel =>
        have hro := ownsRow_lt HROW.out
        have hcl := ownsRow_lt hcr
        simp only [World.size_alloc] at hcl
        have hF5 : Fr (fun q => u3.ownBlock = some q) wr w5 := (((((Fr.refl (fun q => u3.ownBlock = some q) wr).alloc _).then0 hf2).alloc _).grown hgrow fun q e => .inl e)
        have hF2 : Fr (fun q => u3.ownBlock = some q) w2 w5 := ((Fr.refl (fun q => u3.ownBlock = some q) w2).alloc _).grown hgrow fun q e => .inl e
        refine ⟨k + 1, ds ++ [c'], by omega, by simp [hdl], by go_num, ?_, ?_, ?_⟩
        · rw [flat_snoc, show CmV.enc c' = [.int .u64 tm, .slice c'.a c'.n c'.c] by rw [CmV.enc, hct]]
          exact hown
        · refine HNEXT.out wr w5 u3.ownBlock (some g2) _ c' HCM.out hF5 (fun q h => .inl h) (fun q h => ?_) hct (ownsRow_base (ownsRow_fr hcr hF2 fun q hq hT => ?_) (by simp only [World.size_alloc]; omega)) fun q hq h => ?_
          · rcases hfresh with h' | h'
            · exact .inl (h'.trans h)
            · cases h; right; omega
          · have h1 := (hro q hT).2; have h2 := (hcl q hq).1; omega
          · have h2 := hcl q hq
            cases h
            rcases hfresh with h' | h'
            · have h1 := (hro _ h').2; omega
            · omega
        · exact (((HFR.out.alloc _).then0 hf2).alloc _).grown hgrow fun q e => .inr (hro q e).1
      case measure => simp [intOf]; omega
    · obtain rfl : k = cs.length := by omega
      have HROW := Lib.hid hrow; have HCM := Lib.hid hcm.out; have HFR := Lib.hid hfr
      clear hrow hcm hfr
      go_wp2
      go_ret
      exact ⟨_, ds, rfl, h4 ▸ HROW.out, hdl.trans h4, HCM.out, HFR.out⟩
end Go.Proofs.YtefepfiijoafbaaGreat
namespace Go.Proofs.YtefepfiijoafbaaGreat
open Go.RowKit Go.Shelf
attribute [local go_sem] Oper.semAt_some
attribute [local irreducible] wpQuiet
set_option linter.unusedVariables false
set_option linter.unusedSimpArgs false

abbrev BoxP (W0 : World) (A : Nat) (ca : Array Value) (W : World) : Prop := (∀ i, W.cell? ⟨A, i, none⟩ = ca[i]?) ∧ A < W.heap.size ∧ Fr N0 W0 W
theorem boxP_keep {W0 : World} {A : Nat} {ca : Array Value} {W W' : World} (hf : Fr N0 W W') (h : BoxP W0 A ca W) : BoxP W0 A ca W' :=
  ⟨fun i => (World.cell?_of_block (hf.at id h.2.1)).trans (h.1 i), Nat.lt_of_lt_of_le h.2.1 hf.size, h.2.2.then0 hf⟩

set_option maxRecDepth 100000 in
set_option maxHeartbeats 2000000 in
theorem copy_any (W : World) (R : Nat → Prop) (p : Nat) (l : PL) (h : IsPL W R p l) (hs : 0 < l.s.pred.size) (hl : l.commits.length ≤ 1000000) (ht : l.times.length ≤ 1000000) (hw : ∀ c ∈ l.commits, c.writes.length ≤ 1000000) :
    Calls Tryz.prog 63 #[.pointer (some ⟨p, 0, none⟩)] W fun e w' => ∃ p', e = .returned (.pointer (some ⟨p', 0, none⟩)) ∧ (IsPL w' (fun k => W.heap.size ≤ k) p' l) ∧ Fr N0 W w' := by
  have h0 := h
  obtain ⟨vt, vc, cs, h1, hp, ⟨h3, -⟩, -⟩ := h
  obtain ⟨m, n, lt⟩ := box_cells h1
  have hn := pNone_any W p l.s.pred (m 0) hs
  have hc1 := fun (W' : World) (hf : Fr N0 W W') => commits_any W' R p l (h0.fr hf fun _ _ => id) hs hl hw
  obtain ⟨b, -, hb⟩ := rowsK_of_row (enc := enc4) (n := 1) ins4_len (by decide) h3
  have hc2 := fun (W' : World) (hf : Fr N0 W W') => clone4_any W' b vt l.times (hb.fr0 ins4_len hf) ht
  have HN := Lib.hid hn; have H1 := Lib.hid h1; have HC1 := Lib.hid hc1; have HC2 := Lib.hid hc2
  clear hn h1 m n hc1 hc2 h3 hb h0
  go_enter Tryz.func63, Tryz.ntmps63
  go_wp2_with (go_at_call 71; refine HN.out.mono ?_; rintro e w1 ⟨rfl, hf1⟩)
  have hb1 : BoxP w1 p #[.string l.s.pred, .int .u8 l.s.ty, .bool l.s.list, .bool l.s.exact_, .bool l.s.term, .bool l.s.order, .bool l.s.rev, .bool l.s.count, .int .u64 l.marked, vt, vc] w1 := ⟨(box_cells ((hf1.at id lt).trans H1.out)).1, Nat.lt_of_lt_of_le lt hf1.size, Fr.refl _ _⟩
  have HF1 := Lib.hid hf1; have HB := Lib.hid hb1
  clear hf1 hb1
  go_region_held3 (BoxP w1 p #[.string l.s.pred, .int .u8 l.s.ty, .bool l.s.list, .bool l.s.exact_, .bool l.s.term, .bool l.s.order, .bool l.s.rev, .bool l.s.count, .int .u64 l.marked, vt, vc]) (first
    | (with_reducible assumption)
    | (with_reducible exact boxP_keep (Fr.refl _ _).drew HB.out)
    | (with_reducible exact boxP_keep hfw3 HB.out)
    | (with_reducible exact boxP_keep hfw2 HB.out)
    | (with_reducible exact boxP_keep (hfw3.alloc _) HB.out)
    | (with_reducible exact boxP_keep (hfw2.alloc _) HB.out)
    | fail) (first
    | (go_simp; go_at_call 74; refine (HC2.out _ (HF1.out.then0 (by go_split_ands; assumption))).mono ?_; rintro e w2 ⟨v', rfl, hr, -, hfc⟩; obtain ⟨ta, tc, rfl⟩ := slice_of_row hr; have hfw2 : Fr N0 w1 w2 := Fr.then0 (by go_split_ands; assumption) hfc)
    | (go_simp; go_at_call 20; refine (HC1.out _ (HF1.out.then0 (by go_split_ands; assumption))).mono ?_; rintro e w3 ⟨v3, ds, rfl, hr3, hdl, hcms, hfd⟩; obtain ⟨ca, cc, rfl⟩ := slice_of_row hr3; have hfw3 : Fr N0 w1 w3 := Fr.then0 (by go_split_ands; assumption) hfd)
    | fail)
  rename_i hHeld
  clear hHeld
  have hz1 := HF1.out.size
  have hz2 := hfw2.size
  have hz3 := hfd.size
  have hrl := ownsRow_lt hr
  have hr3l := ownsRow_lt hr3
  have hrz : w1.drew.heap.size = w1.heap.size := rfl
  have HR := Lib.hid hr; have HR3 := Lib.hid hr3; have HCM := Lib.hid hcms; have HFD := Lib.hid hfd
  have HFW := Lib.hid (HF1.out.then0 hfw3)
  clear hr hr3 hcms hfd hfc hfw2 hfw3 HB HN H1 HC1 HC2
  go_wp2
  go_ret
  refine ⟨_, rfl, ⟨_, _, ds, World.alloc_heap_new w3 _, by show W.heap.size ≤ w3.heap.size; omega, ⟨ownsRow_base (ownsRow_fr HR.out (HFD.out.alloc _) fun _ _ => id) (Nat.zero_le _), fun k hk => ?_⟩, ⟨?_, hdl, fun k hk => ?_⟩, fun i hi hi' => ?_⟩, HFW.out.alloc _⟩
  · have := hrl k hk
    exact ⟨by show W.heap.size ≤ k; omega, by omega⟩
  · rw [hdl]
    exact ownsRow_base (ownsRow_fr HR3.out ((Fr.refl N0 w3).alloc _) fun _ _ => id) (Nat.zero_le _)
  · have := hr3l k hk
    exact ⟨by show W.heap.size ≤ k; omega, by omega, fun h => by have := hrl k h; omega⟩
  · obtain ⟨q1, q2, q3⟩ := HCM.out i hi hi'
    have hlt := ownsRow_lt q2
    obtain ⟨bb, -, hbk⟩ := rowsK_of_row (enc := Wr.enc) (n := 8) (fun _ => rfl) (by decide) (ownsRow_fr q2 ((Fr.refl N0 w3).alloc _) fun _ _ => id)
    refine ⟨q1, bb, hbk, fun hpos => ?_⟩
    obtain ⟨a, off, cap, he, -, -, h3, -⟩ := hbk
    have ho : (Value.slice ds[i].a ds[i].n ds[i].c).ownBlock = some bb := by rw [he, h3 hpos]; rfl
    have := hlt bb ho
    exact ⟨by show W.heap.size ≤ bb; omega, by omega, fun h => by have := hrl bb h; omega, q3 bb ho⟩
end Go.Proofs.YtefepfiijoafbaaGreat
