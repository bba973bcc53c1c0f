/- tesseraref18.List.Add: the regions that draw. tesseraref18.List.Add: the two regions that store. -/
import Derived.Deep.RegionLaw
import Derived.Test.YtefepfiijoafbaaGreatQXAdd0
import Derived.Test.YtefepfiijoafbaaGreatQAddY
namespace Go.Proofs.YtefepfiijoafbaaGreat
open Go.RowKit Go.Shelf Go.Maps
attribute [local go_sem] Oper.semAt_some
attribute [local irreducible] wpQuiet
set_option linter.unusedVariables false
set_option linter.unusedSimpArgs false

noncomputable def axB (n : Nat) : Code := lvSuf n ((Tryz.f78.body).getD .skip)
/-- Two boxes; the first may be stored to. -/
abbrev BoxF2 (W0 : World) (B : Nat) (cs : Array Value) (C : Nat) (ds : Array Value) (W : World) : Prop := (∀ i, W.cell? ⟨B, i, none⟩ = cs[i]?) ∧ (∀ i, W.frozen? ⟨B, i, none⟩ = false) ∧ (∀ i, W.cell? ⟨C, i, none⟩ = ds[i]?) ∧ B < W.heap.size ∧ C < W.heap.size ∧ Fr N0 W0 W
theorem boxF2_keep {W0 : World} {B C : Nat} {cs ds : Array Value} {W W' : World} (hf : Fr N0 W W') (h : BoxF2 W0 B cs C ds W) : BoxF2 W0 B cs C ds W' :=
  ⟨fun i => (cell_same (p := ⟨B, i, none⟩) (hf.at id h.2.2.2.1)).trans (h.1 i), fun i => (frozen_same (p := ⟨B, i, none⟩) (hf.at id h.2.2.2.1)).trans (h.2.1 i), fun i => (cell_same (p := ⟨C, i, none⟩) (hf.at id h.2.2.2.2.1)).trans (h.2.2.1 i), Nat.lt_of_lt_of_le h.2.2.2.1 hf.size, Nat.lt_of_lt_of_le h.2.2.2.2.1 hf.size, h.2.2.2.2.2.then0 hf⟩
section
variable {K : Act → World → Prop} {Q : Exit → Act → World → Prop} (W : World) (f : Nat → Value) (p B : Nat) (sp : ByteArray) (st : Int) (sl se sm so sr sc : Bool) (mk : Int) (ta : Option Addr) (tn tc : Nat) (ca : Option Addr) (cn cc : Nat) (t : Int) (wa : Option Addr) (wn wc : Nat)
  (h0 : f 0 = .pointer (some ⟨p, 0, none⟩)) (h3 : f 3 = .pointer (some ⟨B, 0, none⟩)) (hb : BoxF2 W p #[Value.string sp, Value.int .u8 st, Value.bool sl, Value.bool se, Value.bool sm, Value.bool so, Value.bool sr, Value.bool sc, Value.int .u64 mk, Value.slice ta tn tc, Value.slice ca cn cc] B #[Value.int .u64 t, Value.slice wa wn wc] W)
include h0 h3 hb
set_option maxRecDepth 100000 in
set_option maxHeartbeats 8000000 in
theorem axR1 (E : Int) (hF : Calls Tryz.prog 133 #[.agg #[Value.string sp, Value.int .u8 st, Value.bool sl, Value.bool se, Value.bool sm, Value.bool so, Value.bool sr, Value.bool sc], .agg #[Value.int .u64 t, Value.slice wa wn wc]] W.drew fun e w' => (∃ a : Int, e = .returned (.tuple #[.int .i64 a, .int .i64 E])) ∧ Fr N0 W.drew w')
    (hK : ∀ f' W' (a : Int), f' 0 = .pointer (some ⟨p, 0, none⟩) → f' 3 = .pointer (some ⟨B, 0, none⟩) → f' 6 = .int .i64 a → f' 7 = .int .i64 E → Fr N0 W W' → K (frA 64 f') W') :
    Code.wp Tryz.prog (lvFst (axB 1)) (Exit.then K Q) (frA 64 f) W := by
  have HB := Lib.hid (boxF2_keep (Fr.refl N0 W).drew hb)
  have HK := Lib.hid hK
  have HF := Lib.hid hF
  clear hF
  clear hK hb
  show Code.wp _ _ _ { tmps := #[f 0, f 1, f 2, f 3, f 4, f 5, f 6, f 7, f 8, f 9, f 10, f 11, f 12, f 13, f 14, f 15, f 16, f 17, f 18, f 19, f 20, f 21, f 22, f 23, f 24, f 25, f 26, f 27, f 28, f 29, f 30, f 31, f 32, f 33, f 34, f 35, f 36, f 37, f 38, f 39, f 40, f 41, f 42, f 43, f 44, f 45, f 46, f 47, f 48, f 49, f 50, f 51, f 52, f 53, f 54, f 55, f 56, f 57, f 58, f 59, f 60, f 61, f 62, f 63], defers := [] } _
  rw [h0, h3]
  clear h0 h3
  conv => arg 2; whnf
  go_region_held3 (BoxF2 W p #[Value.string sp, Value.int .u8 st, Value.bool sl, Value.bool se, Value.bool sm, Value.bool so, Value.bool sr, Value.bool sc, Value.int .u64 mk, Value.slice ta tn tc, Value.slice ca cn cc] B #[Value.int .u64 t, Value.slice wa wn wc]) (first
    | (with_reducible assumption)
    | (with_reducible exact HB.out)
    | (with_reducible exact hb3)
    | fail) (first
    | (go_simp; go_at_call 133; (refine HF.out.mono ?_; rintro e w3 ⟨⟨ax, rfl⟩, hf3⟩; have hb3 := boxF2_keep hf3 HB.out))
    | fail)
  all_goals
    refine cut_use (n := 64) (K := K) _ rfl ?_
    exact HK.out _ _ _ rfl rfl rfl rfl ((Fr.refl N0 W).drew.then0 hf3)
set_option maxRecDepth 100000 in
set_option maxHeartbeats 8000000 in
theorem axR6 (q : Bool) (hF : Calls Tryz.prog 134 #[.slice ta tn tc, .int .u64 t] W.drew fun e w' => e = .returned (.bool q) ∧ Fr N0 W.drew w')
    (hK : ∀ f' W', f' 0 = .pointer (some ⟨p, 0, none⟩) → f' 3 = .pointer (some ⟨B, 0, none⟩) → f' 35 = .bool q → Fr N0 W W' → K (frA 64 f') W') :
    Code.wp Tryz.prog (lvFst (lvFst (axB 4))) (Exit.then K Q) (frA 64 f) W := by
  have HB := Lib.hid (boxF2_keep (Fr.refl N0 W).drew hb)
  have HK := Lib.hid hK
  have HF := Lib.hid hF
  clear hF
  clear hK hb
  show Code.wp _ _ _ { tmps := #[f 0, f 1, f 2, f 3, f 4, f 5, f 6, f 7, f 8, f 9, f 10, f 11, f 12, f 13, f 14, f 15, f 16, f 17, f 18, f 19, f 20, f 21, f 22, f 23, f 24, f 25, f 26, f 27, f 28, f 29, f 30, f 31, f 32, f 33, f 34, f 35, f 36, f 37, f 38, f 39, f 40, f 41, f 42, f 43, f 44, f 45, f 46, f 47, f 48, f 49, f 50, f 51, f 52, f 53, f 54, f 55, f 56, f 57, f 58, f 59, f 60, f 61, f 62, f 63], defers := [] } _
  rw [h0, h3]
  clear h0 h3
  conv => arg 2; whnf
  go_region_held3 (BoxF2 W p #[Value.string sp, Value.int .u8 st, Value.bool sl, Value.bool se, Value.bool sm, Value.bool so, Value.bool sr, Value.bool sc, Value.int .u64 mk, Value.slice ta tn tc, Value.slice ca cn cc] B #[Value.int .u64 t, Value.slice wa wn wc]) (first
    | (with_reducible assumption)
    | (with_reducible exact HB.out)
    | (with_reducible exact hb3)
    | fail) (first
    | (go_simp; go_at_call 134; (refine HF.out.mono ?_; rintro e w3 ⟨rfl, hf3⟩; have hb3 := boxF2_keep hf3 HB.out))
    | fail)
  all_goals
    refine cut_use (n := 64) (K := K) _ rfl ?_
    exact HK.out _ _ rfl rfl rfl ((Fr.refl N0 W).drew.then0 hf3)
end
end Go.Proofs.YtefepfiijoafbaaGreat
namespace Go.Proofs.YtefepfiijoafbaaGreat
open Go.RowKit Go.Shelf Go.Maps
attribute [local go_sem] Oper.semAt_some
attribute [local irreducible] wpQuiet
set_option linter.unusedVariables false
set_option linter.unusedSimpArgs false

abbrev XCells (s : Sch) (mk : Int) (vt vc : Value) : Obj := .cells #[.string s.pred, .int .u8 s.ty, .bool s.list, .bool s.exact_, .bool s.term, .bool s.order, .bool s.rev, .bool s.count, .int .u64 mk, vt, vc] 173
set_option maxRecDepth 100000 in
set_option maxHeartbeats 4000000 in
/-- l.Times = rise(l.Times, c.Time) -/
theorem axR10 {K : Act → World → Prop} {Q : Exit → Act → World → Prop} (W : World) (f : Nat → Value) (p B : Nat) (s : Sch) (mk : Int) (vt vc : Value) (c : CmV) (ts : List Int) (bt : Nat)
    (h0 : f 0 = .pointer (some ⟨p, 0, none⟩)) (h3 : f 3 = .pointer (some ⟨B, 0, none⟩)) (hp : W.heap[p]? = some (XCells s mk vt vc)) (hB : W.heap[B]? = some (.cells c.enc.toArray 80 (0, 0)))
    (hr : Ints .u64 W bt vt ts) (hn : ts.length ≤ 10000000000) (hpB : p ≠ B)
    (hK : ∀ f' W' vt', f' 0 = f 0 → f' 3 = f 3 → W'.heap[p]? = some (XCells s mk vt' vc) → W'.heap[B]? = some (.cells c.enc.toArray 80 (0, 0)) → W'.ownsRow W.heap.size 33 1 vt' (insGt c.time ts).length ((insGt c.time ts).map (Value.int .u64)) →
      Fr (fun j => j = p) W W' → K (frA 64 f') W') :
    Code.wp Tryz.prog (lvFst (axB 7)) (Exit.then K Q) (frA 64 f) W := by
  obtain ⟨a, n, cp, rfl⟩ : ∃ a n cp, vt = .slice a n cp := by obtain ⟨a, off, cap, rfl, -⟩ := hr; exact ⟨_, _, _, rfl⟩
  obtain ⟨m, nn, lp⟩ := box_cells hp
  obtain ⟨mb, nb, lb⟩ := box_cells hB
  have hI := r18rise_any W.drew bt (.slice a n cp) ts (hr.fr0 (Fr.refl N0 W).drew) hn c.time
  have HI := Lib.hid hI; have HK := Lib.hid hK; have HP := Lib.hid hp; have HB := Lib.hid hB
  clear hI hK hp hB hr hn
  obtain ⟨t, ca, cn, cc⟩ := c
  obtain ⟨sp, st, sl, se, sm, so, sr, sc⟩ := s
  have H0 := Lib.hid h0; have H3 := Lib.hid h3
  simp only [CmV.enc] at mb m HI
  show Code.wp _ _ _ { tmps := #[f 0, f 1, f 2, f 3, f 4, f 5, f 6, f 7, f 8, f 9, f 10, f 11, f 12, f 13, f 14, f 15, f 16, f 17, f 18, f 19, f 20, f 21, f 22, f 23, f 24, f 25, f 26, f 27, f 28, f 29, f 30, f 31, f 32, f 33, f 34, f 35, f 36, f 37, f 38, f 39, f 40, f 41, f 42, f 43, f 44, f 45, f 46, f 47, f 48, f 49, f 50, f 51, f 52, f 53, f 54, f 55, f 56, f 57, f 58, f 59, f 60, f 61, f 62, f 63], defers := [] } _
  rw [h0, h3]
  clear h0 h3
  conv => arg 2; whnf
  refine wp_plainQ ?_
  go_region_law (first
    | (go_simp; go_at_call 136; refine HI.out.mono ?_; rintro e w1 ⟨v1, rfl, hr1, hf1⟩; obtain ⟨a1, c1, rfl⟩ := slice_of_row hr1; have hp1 := (hf1.at (k := p) id lp).trans HP.out; obtain ⟨m1, n1, l1⟩ := box_cells hp1)
    | fail)
  all_goals
    have hpe := heap_setCell_same w1 p 9 _ _ (Value.slice a1 (insGt t ts).length c1) hp1
    have hBf : w1.heap[B]? = some (.cells #[.int .u64 t, .slice ca cn cc] 80 (0, 0)) := (hf1.at (k := B) id lb).trans HB.out
    have hF : Fr (fun j => j = p) W (w1.setCell ⟨p, 9, none⟩ (.slice a1 (insGt t ts).length c1)) := ((((Fr.refl N0 W).drew.then0 hf1).mono fun _ h => h.elim : Fr (fun j => j = p) W w1)).setCell (.inl rfl) _
    have hr2 := ownsRow_fr hr1 ((Fr.refl (fun j => j = p) w1).setCell (p := ⟨p, 9, none⟩) (.inl rfl) (.slice a1 (insGt t ts).length c1)) fun k hk e => by
      subst e
      have := (ownsRow_lt hr1 _ hk).1
      have hrz : W.drew.heap.size = W.heap.size := rfl
      omega
    refine cut_use (n := 64) (K := K) _ rfl ?_
    exact HK.out _ _ _ H0.out.symm H3.out.symm hpe ((setCell_other (by exact fun e => hpB e.symm)).trans hBf) hr2 hF
set_option maxRecDepth 100000 in
set_option maxHeartbeats 4000000 in
/-- l.L = lay(l.L, Commit{c.Time, append(w, c.Writes...)}) -/
theorem axR9 {K : Act → World → Prop} {Q : Exit → Act → World → Prop} (W : World) (f : Nat → Value) (p B : Nat) (s : Sch) (mk : Int) (vt vc : Value) (c : CmV) (cs : List CmV) (b bc : Nat) (xs : List Wr)
    (h0 : f 0 = .pointer (some ⟨p, 0, none⟩)) (h3 : f 3 = .pointer (some ⟨B, 0, none⟩)) (h8 : f 8 = .slice none 0 0) (hp : W.heap[p]? = some (XCells s mk vt vc)) (hB : W.heap[B]? = some (.cells c.enc.toArray 80 (0, 0)))
    (hr : RowsK CmV.enc 2 W bc vc cs) (hn : cs.length ≤ 10000000000) (hpB : p ≠ B) (hw : Wrs W b (.slice c.a c.n c.c) xs) (hx0 : 0 < xs.length) (hxl : xs.length ≤ 256)
    (hK : ∀ f' W' vc' c', f' 0 = f 0 → f' 3 = f 3 → W'.heap[p]? = some (XCells s mk vt vc') → W'.heap[B]? = some (.cells c.enc.toArray 80 (0, 0)) → c'.time = c.time → W'.ownsRow W.heap.size 80 2 vc' (layC c' cs).length ((layC c' cs).flatMap CmV.enc) →
      W'.ownsRow W.heap.size 61 8 (.slice c'.a c'.n c'.c) xs.length (xs.flatMap Wr.enc) → Fr (fun j => j = p) W W' → K (frA 64 f') W') :
    Code.wp Tryz.prog (lvFst (axB 6)) (Exit.then K Q) (frA 64 f) W := by
  obtain ⟨i0, hi, hz0, hz1, hz2⟩ := info_parts infoWr
  obtain ⟨va, vn, vp, rfl⟩ : ∃ a n cp, vc = .slice a n cp := by obtain ⟨a, off, cap, rfl, -⟩ := hr; exact ⟨_, _, _, rfl⟩
  obtain ⟨m, nn, lp⟩ := box_cells hp
  obtain ⟨mb, nb, lb⟩ := box_cells hB
  have hL := fun (W1 : World) (hf : Fr N0 W W1) c' => lay_any W1 bc (.slice va vn vp) cs (RowsK.fr0 (enc := CmV.enc) (n := 2) (fun _ => rfl) hr hf) hn c'
  obtain ⟨ct, ca, cn, cc⟩ := c
  obtain ⟨off, he, hcells⟩ : ∃ off, ca = some ⟨b, off, none⟩ ∧ ∀ W1, Fr N0 W W1 → ∀ (j : Nat) (u : Value), (xs.flatMap Wr.enc)[j]? = some u → W1.cell? ((⟨b, off, none⟩ : Addr).add j) = some u := by
    obtain ⟨a', off, cap, he, r1, r2, r3, r4, r5⟩ := id hw
    injection he with ha hn' hc
    subst ha hn' hc
    have ha := r3 hx0
    refine ⟨off, ha, fun W1 hf j u hu => ?_⟩
    subst ha
    exact rows_news (enc := Wr.enc) (n := 8) (fun _ => rfl) (by decide) (hw.fr0 hf) j u hu
  have hcn : cn = xs.length := by
    obtain ⟨a', off, cap, he, -⟩ := hw
    injection he
  subst he hcn
  have hlen : (xs.flatMap Wr.enc).length = xs.length * 8 := flat_length (enc := Wr.enc) (n := 8) (fun _ => rfl) xs
  have hone := one_cells wr_one xs
  obtain ⟨N, hN⟩ : ∃ N, xs.length = N := ⟨_, rfl⟩
  obtain ⟨E, hE⟩ : ∃ E, xs.flatMap Wr.enc = E := ⟨_, rfl⟩
  rw [hN, hE] at hlen
  rw [hN] at hx0 hxl
  rw [hE] at hone hcells
  simp only [hN, hE] at hK hB mb ⊢
  have HL := Lib.hid hL; have HK := Lib.hid hK; have HP := Lib.hid hp; have HB := Lib.hid hB; have HC := Lib.hid hcells; have HLEN := Lib.hid hlen; have HONE := Lib.hid hone
  clear hL hK hp hB hr hn hw hcells hlen hone hN hE
  obtain ⟨sp, st, sl, se, sm, so, sr, sc⟩ := s
  have H0 := Lib.hid h0; have H3 := Lib.hid h3
  simp only [CmV.enc] at mb m HL
  show Code.wp _ _ _ { tmps := #[f 0, f 1, f 2, f 3, f 4, f 5, f 6, f 7, f 8, f 9, f 10, f 11, f 12, f 13, f 14, f 15, f 16, f 17, f 18, f 19, f 20, f 21, f 22, f 23, f 24, f 25, f 26, f 27, f 28, f 29, f 30, f 31, f 32, f 33, f 34, f 35, f 36, f 37, f 38, f 39, f 40, f 41, f 42, f 43, f 44, f 45, f 46, f 47, f 48, f 49, f 50, f 51, f 52, f 53, f 54, f 55, f 56, f 57, f 58, f 59, f 60, f 61, f 62, f 63], defers := [] } _
  rw [h0, h3, h8]
  clear h0 h3 h8
  conv => arg 2; whnf
  refine wp_plainQ ?_
  go_region_law (first
    | (refine step_append_lies _ rfl _ _ 34 rfl W.heap.size 61 i0 zeroWrV 8 72 Tryz.underlying34 hi hz0 hz1 hz2 rfl (by decide) (.slice none 0 0) 0 [] rfl (World.ownsRow_nil _ _ _ _) ⟨b, off, none⟩ N cc E rfl HLEN.out (HC.out _ (Fr.refl N0 W).drew) HONE.out hx0 (by unfold maxLen; omega) (by omega) (Nat.le_refl _) W.heap.size rfl ?_; intro g1 cap1 w1 hown1 hgrow1 hfresh1 hlt1; have hf1 : Fr N0 W w1 := (Fr.refl N0 W).drew.trans ((Fr.refl (fun q => (Value.slice none 0 0).ownBlock = some q) W.drew).grown hgrow1 fun q e => .inl e) (fun q hq => by cases hq); have hp1 := (hf1.at (k := p) id lp).trans HP.out; obtain ⟨m1, n1, l1⟩ := box_cells hp1; have hb1 := (hf1.at (k := B) id lb).trans HB.out; obtain ⟨mb1, nb1, lb1⟩ := box_cells hb1; simp only [CmV.enc] at mb1; rw [Nat.zero_add, List.nil_append] at hown1)
    | (go_simp; go_at_call 135; refine (HL.out _ hf1 ⟨ct, some ⟨g1, 0, none⟩, N, cap1⟩).mono ?_; rintro e w2 ⟨v2, rfl, hr2, hf2⟩; obtain ⟨a2, c2, rfl⟩ := slice_of_row hr2; have hp2 := (hf2.at (k := p) id l1).trans hp1; obtain ⟨m2, n2, l2⟩ := box_cells hp2)
    | fail)
  all_goals
    have hz1 := hf1.size
    have hBf := (hf2.at (k := B) id lb1).trans hb1
    have hpe := heap_setCell_same w2 p 10 _ _ (Value.slice a2 (layC ⟨ct, some ⟨g1, 0, none⟩, N, cap1⟩ cs).length c2) hp2
    have hF : Fr (fun j => j = p) W (w2.setCell ⟨p, 10, none⟩ (.slice a2 (layC ⟨ct, some ⟨g1, 0, none⟩, N, cap1⟩ cs).length c2)) := (((hf1.then0 hf2).mono fun _ h => h.elim : Fr (fun j => j = p) W w2)).setCell (.inl rfl) _
    have hset := (Fr.refl (fun j => j = p) w2).setCell (p := ⟨p, 10, none⟩) (.inl rfl) (Value.slice a2 (layC ⟨ct, some ⟨g1, 0, none⟩, N, cap1⟩ cs).length c2)
    have hr3 := ownsRow_fr hr2 hset fun k hk e => by
      subst e
      have := (ownsRow_lt hr2 _ hk).1
      omega
    have hw2 := ownsRow_fr (ownsRow_fr hown1 hf2 fun _ _ h => h) hset fun k hk e => by
      subst e
      have := (ownsRow_lt hown1 _ hk).1
      omega
    refine cut_use (n := 64) (K := K) _ rfl ?_
    exact HK.out _ _ _ ⟨ct, some ⟨g1, 0, none⟩, N, cap1⟩ H0.out.symm H3.out.symm hpe ((setCell_other (by exact fun e => hpB e.symm)).trans hBf) rfl (ownsRow_base hr3 hz1) hw2 hF
end Go.Proofs.YtefepfiijoafbaaGreat
