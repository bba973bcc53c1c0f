/- tesseraref18.List.Mark: one write appended to the commit that is put together. tesseraref18.List.Mark: the later commits, and the end. -/
import Derived.Deep.RegionLaw
import Derived.Test.YtefepfiijoafbaaGreatQXTrip
import Derived.Test.YtefepfiijoafbaaGreatQXAdd2
namespace Go.Proofs.YtefepfiijoafbaaGreat
open Go.RowKit Go.Shelf Go.Maps
attribute [local go_sem] Oper.semAt_some
attribute [local irreducible] wpQuiet
set_option linter.unusedVariables false
set_option linter.unusedSimpArgs false

/-- A triple, as a write. -/
def wrT (q : ByteArray) (x : Int × Val) : Wr := ⟨false, x.1, q, x.2⟩
noncomputable def mkB (n : Nat) : Code := lvSuf n ((Tryz.f80.body).getD .skip)
noncomputable def mkI : Code := srIn (lvFst (srSnd (srLoop (srIn (srSnd (lvFst (mkB 5)))))))
set_option maxRecDepth 100000 in
set_option maxHeartbeats 8000000 in
theorem mkR9 {K : Act → World → Prop} {Q : Exit → Act → World → Prop} (W : World) (f : Nat → Value) (B base g go i n cv c oc : Nat) (oa : Option Addr) (t : Int) (pr : ByteArray) (y : Val) (u : Int) (cells : List Value)
    (h5 : f 5 = .pointer (some ⟨B, 0, none⟩)) (h6 : f 6 = .slice (some ⟨g, go, none⟩) n cv) (h7 : f 7 = .int .i64 i) (hin : i < n)
    (hB : W.heap[B]? = some (.cells #[.int .u64 t, .slice oa c oc] 80 (0, 0))) (hg : ∀ j, j < 7 → W.cell? ⟨g, go + i * 7 + j, none⟩ = (trE pr (u, y))[j]?)
    (hr : W.ownsRow base 61 8 (.slice oa c oc) c cells) (hb : base ≤ W.heap.size) (hl : c ≤ 10000000000) (nB : (Value.slice oa c oc).ownBlock ≠ some B) (ng : (Value.slice oa c oc).ownBlock ≠ some g)
    (hK : ∀ f' W' oa' oc', KpX [0, 1, 2, 3, 4, 5, 6, 7, 8, 9, 10, 11, 12, 13, 14, 15, 16, 17, 18, 19, 20, 21, 22, 23, 24, 37, 38, 39, 40, 41, 42, 43, 44, 45, 46, 47, 48, 49, 50, 51, 52, 53, 54, 55, 56, 57, 58, 59, 60, 61, 62, 63, 64, 65, 66, 67, 68, 69, 70, 71, 72, 73, 74, 75, 76, 77, 78, 79, 80] f f' → W'.heap[B]? = some (.cells #[.int .u64 t, .slice oa' (c + 1) oc'] 80 (0, 0)) → W'.ownsRow base 61 8 (.slice oa' (c + 1) oc') (c + 1) (cells ++ (wrT pr (u, y)).enc) →
      Fr (fun q => q = B ∨ (Value.slice oa c oc).ownBlock = some q) W W' → (∀ q, (Value.slice oa' (c + 1) oc').ownBlock = some q → (Value.slice oa c oc).ownBlock = some q ∨ W.heap.size ≤ q) → K (frA 81 f') W') :
    Code.wp Tryz.prog mkI (Exit.then K Q) (frA 81 f) W := by
  obtain ⟨i0, hi, hz0, hz1, hz2⟩ := info_parts infoWr
  obtain ⟨yk, yb, yn, ys, yu⟩ := y
  simp only [wrT, Wr.enc] at hK
  obtain ⟨m, nn, lB⟩ := box_cells hB
  have e0 := hg 0 (by decide); have e1 := hg 1 (by decide); have e2 := hg 2 (by decide); have e3 := hg 3 (by decide); have e4 := hg 4 (by decide); have e5 := hg 5 (by decide); have e6 := hg 6 (by decide)
  simp only [trE, List.getElem?_cons_zero, List.getElem?_cons_succ, Nat.add_zero] at e0 e1 e2 e3 e4 e5 e6
  have hgl : g < W.heap.size := lt_of_cell e0
  have HK := Lib.hid hK; have HB := Lib.hid hB; have HR := Lib.hid hr
  have hi1 : (i : Int) < (n : Int) := by omega
  have hi0 : (0 : Int) ≤ (i : Int) := by omega
  have HKP : Hid ([0, 1, 2, 3, 4, 5, 6, 7, 8, 9, 10, 11, 12, 13, 14, 15, 16, 17, 18, 19, 20, 21, 22, 23, 24, 37, 38, 39, 40, 41, 42, 43, 44, 45, 46, 47, 48, 49, 50, 51, 52, 53, 54, 55, 56, 57, 58, 59, 60, 61, 62, 63, 64, 65, 66, 67, 68, 69, 70, 71, 72, 73, 74, 75, 76, 77, 78, 79, 80].map f = [f 0, f 1, f 2, f 3, f 4, .pointer (some ⟨B, 0, none⟩), .slice (some ⟨g, go, none⟩) n cv, .int .i64 i, f 8, f 9, f 10, f 11, f 12, f 13, f 14, f 15, f 16, f 17, f 18, f 19, f 20, f 21, f 22, f 23, f 24, f 37, f 38, f 39, f 40, f 41, f 42, f 43, f 44, f 45, f 46, f 47, f 48, f 49, f 50, f 51, f 52, f 53, f 54, f 55, f 56, f 57, f 58, f 59, f 60, f 61, f 62, f 63, f 64, f 65, f 66, f 67, f 68, f 69, f 70, f 71, f 72, f 73, f 74, f 75, f 76, f 77, f 78, f 79, f 80]) := by
    show [f 0, f 1, f 2, f 3, f 4, f 5, f 6, f 7, f 8, f 9, f 10, f 11, f 12, f 13, f 14, f 15, f 16, f 17, f 18, f 19, f 20, f 21, f 22, f 23, f 24, f 37, f 38, f 39, f 40, f 41, f 42, f 43, f 44, f 45, f 46, f 47, f 48, f 49, f 50, f 51, f 52, f 53, f 54, f 55, f 56, f 57, f 58, f 59, f 60, f 61, f 62, f 63, f 64, f 65, f 66, f 67, f 68, f 69, f 70, f 71, f 72, f 73, f 74, f 75, f 76, f 77, f 78, f 79, f 80] = _
    rw [h5, h6, h7]
  have NB := Lib.hid nB; have NG := Lib.hid ng
  clear hK hB hr nB ng hg
  show Code.wp _ _ _ { tmps := #[f 0, f 1, f 2, f 3, f 4, f 5, f 6, f 7, f 8, f 9, f 10, f 11, f 12, f 13, f 14, f 15, f 16, f 17, f 18, f 19, f 20, f 21, f 22, f 23, f 24, f 25, f 26, f 27, f 28, f 29, f 30, f 31, f 32, f 33, f 34, f 35, f 36, f 37, f 38, f 39, f 40, f 41, f 42, f 43, f 44, f 45, f 46, f 47, f 48, f 49, f 50, f 51, f 52, f 53, f 54, f 55, f 56, f 57, f 58, f 59, f 60, f 61, f 62, f 63, f 64, f 65, f 66, f 67, f 68, f 69, f 70, f 71, f 72, f 73, f 74, f 75, f 76, f 77, f 78, f 79, f 80], defers := [] } _
  rw [h5, h6, h7]
  clear h5 h6 h7
  conv => arg 2; whnf
  refine wp_plainQ ?_
  go_region_law (((refine step_append_lies _ (by rfl) _ _ 34 (by rfl) base 61 i0 zeroWrV 8 72 Tryz.underlying34 hi hz0 hz1 hz2 rfl (by decide) (.slice oa c oc) c cells (by rfl) ((HR.out.drew).alloc _) ⟨W.heap.size, 0, none⟩ 1 1 [.bool false, .int .u64 u, .string pr, .int .u8 yk, .bool yb, .int .i64 yn, .string ys, .int .u64 yu] (by rfl) rfl (World.news_of_block (cs := #[.bool false, .int .u64 u, .string pr, .int .u8 yk, .bool yb, .int .i64 yn, .string ys, .int .u64 yu]) (t := 61) (fr := (0, 0)) (heap_alloc_new W.drew _)) (by simp [Value.oneCell']) (by omega) (by unfold maxLen; omega) (by omega) (Nat.le_trans hb (Nat.le_trans (Nat.le_succ _) (Nat.le_of_eq (World.size_alloc W.drew _).symm))) (W.heap.size + 1) (World.size_alloc W.drew _) ?_; intro g1 cap1 w3 hown3 hgrow3 hfresh3 hlt3; have hfa : Fr (fun q => (Value.slice oa c oc).ownBlock = some q) _ w3 := (Fr.refl _ _).grown hgrow3 fun q e => .inl e; have hfw : Fr (fun q => (Value.slice oa c oc).ownBlock = some q) W w3 := ((((Fr.refl N0 W).alloc (.cells #[.bool false, .int .u64 u, .string pr, .int .u8 yk, .bool yb, .int .i64 yn, .string ys, .int .u64 yu] 61)).drew).mono fun _ h => h.elim).trans hfa fun q hq => .inl hq; have hB3 : w3.heap[B]? = some (.cells #[.int .u64 t, .slice oa c oc] 80 (0, 0)) := (hfw.at (k := B) NB.out lB).trans HB.out; obtain ⟨m3, n3, l3⟩ := box_cells hB3)))
  all_goals
    have hpe := heap_setCell_same w3 B 1 _ _ (Value.slice (some ⟨g1, 0, none⟩) (c + 1) cap1) hB3
    have hset := (Fr.refl (fun j => j = B) w3).setCell (p := ⟨B, 1, none⟩) (.inl rfl) (Value.slice (some ⟨g1, 0, none⟩) (c + 1) cap1)
    have hgB : g1 ≠ B := fun e => by
      rcases hfresh3 with h | h
      · exact NB.out (e ▸ h)
      · omega
    have hr3 := ownsRow_fr hown3 hset fun k hk e => hgB ((Option.some.inj hk).trans e)
    refine cut_use (n := 81) (K := K) _ rfl ?_
    exact HK.out _ _ _ _ (kpX_mk (Eq.trans rfl HKP.out.symm)) hpe hr3 ((hfw.mono fun k hk => .inl (.inr hk)).setCell (.inl (.inl rfl)) _) fun q hq => by
      obtain rfl : g1 = q := Option.some.inj hq
      rcases hfresh3 with e | e
      · exact .inl e
      · right; omega
end Go.Proofs.YtefepfiijoafbaaGreat
namespace Go.Proofs.YtefepfiijoafbaaGreat
open Go.RowKit Go.Shelf Go.Maps
attribute [local go_sem] Oper.semAt_some
attribute [local irreducible] wpQuiet
set_option linter.unusedVariables false
set_option linter.unusedSimpArgs false

def laterC (t : Int) (cs : List CmV) : List CmV := cs.filter fun c => decide (t < c.time)
set_option maxRecDepth 100000 in
set_option maxHeartbeats 8000000 in
theorem mkTail {Pst : Ending → World → Prop} (W : World) (f : Nat → Value) (p base bc d : Nat) (s : Sch) (mk : Int) (vt vc ov : Value) (t : Int) (cs os0 : List CmV)
    (h0 : f 0 = .pointer (some ⟨p, 0, none⟩)) (h1 : f 1 = .int .u64 t) (h8 : f 8 = ov) (hp : W.heap[p]? = some (XCells s mk vt vc)) (hc : RowsK CmV.enc 2 W bc vc cs) (hcl : cs.length ≤ 1000000000) (hol : os0.length ≤ 1)
    (hr : W.ownsRow base 80 2 ov os0.length (os0.flatMap CmV.enc)) (hb : base ≤ W.heap.size) (hpb : p < base) (hbb : 0 < cs.length → bc < base)
    (hpost : ∀ w' vc', w'.heap[p]? = some (XCells s t vt vc') → w'.ownsRow base 80 2 vc' (os0 ++ laterC t cs).length ((os0 ++ laterC t cs).flatMap CmV.enc) → Fr (fun q => q = p ∨ base ≤ q) W w' → Pst (.returned (.int .i64 0)) w') :
    Code.wp Tryz.prog (mkB 8) (bodyPost Tryz.prog Tryz.f80 Pst) (frA 81 f) W := by
  obtain ⟨i0, hi, hz0, hz1, hz2⟩ := info_parts insC_info
  obtain ⟨ca, off, cc, rfl, r1, r2, r3, -, r5⟩ := hc
  obtain ⟨n, hn⟩ : ∃ n, cs.length = n := ⟨_, rfl⟩
  have HN := Lib.hid hn; have HC := Lib.hid r5; have HP := Lib.hid hp; have HPOST := Lib.hid hpost
  rw [hn] at r1 r3 hcl hbb HP
  clear r5 hn hp hpost
  obtain ⟨sp, st, sl, se, sm, so, sr, sc⟩ := s
  have hrow0 := Lib.hid hr
  clear hr
  show Code.wp _ _ _ { tmps := #[f 0, f 1, f 2, f 3, f 4, f 5, f 6, f 7, f 8, f 9, f 10, f 11, f 12, f 13, f 14, f 15, f 16, f 17, f 18, f 19, f 20, f 21, f 22, f 23, f 24, f 25, f 26, f 27, f 28, f 29, f 30, f 31, f 32, f 33, f 34, f 35, f 36, f 37, f 38, f 39, f 40, f 41, f 42, f 43, f 44, f 45, f 46, f 47, f 48, f 49, f 50, f 51, f 52, f 53, f 54, f 55, f 56, f 57, f 58, f 59, f 60, f 61, f 62, f 63, f 64, f 65, f 66, f 67, f 68, f 69, f 70, f 71, f 72, f 73, f 74, f 75, f 76, f 77, f 78, f 79, f 80], defers := [] } _
  rw [h0, h1, h8]
  clear h0 h1 h8
  conv => arg 2; whnf
  go_wp2_with fail
  go_loopw [8, 9] (fun ov jv wr => ∃ (j d : Nat) (os : List CmV), j ≤ n ∧ jv = .int .i64 j ∧ Hid (os = os0 ++ laterC t (cs.take j)) ∧ Hid (d = os.length) ∧ d ≤ j + 1 ∧ Hid (wr.ownsRow base 80 2 ov d (os.flatMap CmV.enc)) ∧ Hid (Fr (fun q => base ≤ q) W wr)) (fun _ jv _ => n - (intOf jv).toNat)
  case atStart => exact ⟨0, os0.length, os0, Nat.zero_le _, by first | rfl | go_num, Lib.hid (by simp [laterC]), Lib.hid rfl, by omega, hrow0.out, Fr.refl _ _⟩
  case round =>
    obtain ⟨j, d, os, hj, rfl, hos, hd, hdj, hrow, hfr⟩ := hrel
    obtain ⟨oa, oc, rfl⟩ := row_form hrow.out
    have hpr := (hfr.out.at (k := p) (by omega) (lt_of_block HP.out)).trans HP.out
    obtain ⟨mp, np, lp⟩ := box_cells hpr
    have hzr := hfr.out.size
    by_cases hlt : j < n
    · obtain rfl := r3 (by omega)
      have hx : j < cs.length := by rw [HN.out]; exact hlt
      have hbb' := hbb (by omega)
      have e1 := hfr.out.cell (p := ⟨bc, off + j * 2 + 0, none⟩) (fun h => by have : base ≤ bc := h; omega) (HC.out j hx 0 (by decide))
      have e2 := hfr.out.cell (p := ⟨bc, off + j * 2 + 1, none⟩) (fun h => by have : base ≤ bc := h; omega) (HC.out j hx 1 (by decide))
      have hts := List.take_succ_eq_append_getElem hx
      obtain ⟨xe, hx'⟩ : ∃ xe, cs[j] = xe := ⟨_, rfl⟩
      rw [hx'] at e1 e2 hts
      have hlat : laterC t (cs.take (j + 1)) = laterC t (cs.take j) ++ if t < xe.time then [xe] else [] := by
        unfold laterC
        rw [hts, List.filter_append]
        by_cases h : t < xe.time <;> simp [h]
      have hji : (j : Int) < (n : Int) := by omega
      obtain ⟨x, hxx⟩ : ∃ x, x = xe := ⟨_, rfl⟩
      have HXX := Lib.hid hxx
      rw [← hxx] at e1 e2
      have HL := Lib.hid hlat; have HOS := Lib.hid hos.out; have HD := Lib.hid hd.out; have HFR := Lib.hid hfr.out
      have hrw := hrow.out
      clear hts hx' hx hlat hos hd hfr hrow hpr hxx
      obtain ⟨xt, xa, xn, xc⟩ := x
      have hxt : xe.time = xt := by rw [← HXX.out]
      have hxn : xe.enc = [.int .u64 xt, .slice xa xn xc] := by rw [← HXX.out]; rfl
      have HXT := Lib.hid hxt; have HXN := Lib.hid hxn
      clear hxt hxn
      simp only [CmV.enc, List.getElem?_cons_zero, List.getElem?_cons_succ, Nat.add_zero] at e1 e2
      by_cases htx : t < xt
      · go_wp2_with (at_builtin; go_loud (refine wpList_append_lies _ rfl _ _ 36 rfl (base) 80 i0 (.agg #[.int .u64 0, .slice none 0 0]) 2 32 Tryz.underlying36 hi hz0 hz1 hz2 rfl (by decide) (.slice oa d oc) (d) _ rfl (hrw.alloc _) ⟨wr.heap.size, 0, none⟩ 1 1 ([.int .u64 xt, .slice xa xn xc]) rfl rfl (World.news_of_block (cs := ([.int .u64 xt, .slice xa xn xc]).toArray) (t := 80) (fr := (0, 0)) (heap_alloc_new wr _)) (by simp [Value.oneCell']) (by omega) (by unfold maxLen; omega) (by omega) (by simp; omega) (wr.heap.size + 1) (by simp) ?_); intro g1 cap1 w3 hown3 hgrow3 hfresh3 hlt3)
        go_roundw
        case rel =>
          have hfa : Fr (fun j => (Value.slice oa d oc).ownBlock = some j) _ w3 := (Fr.refl _ _).grown hgrow3 fun j e => .inl e
          exact ⟨j + 1, d + 1, os ++ [xe], by omega, by first | rfl | go_num, Lib.hid (by rw [HOS.out, HL.out, if_pos (by rw [HXT.out]; exact htx), List.append_assoc]), Lib.hid (by rw [HD.out]; simp), by omega, Lib.hid (by rw [List.flatMap_append]; simp only [List.flatMap_cons, List.flatMap_nil, List.append_nil, HXN.out]; exact hown3), (HFR.out.alloc _).trans hfa fun j hj => .inl (ownsRow_lt hrw _ hj).1⟩
        case measure => simp [intOf]; omega
      · go_wp2
        go_roundw
        case rel => exact ⟨j + 1, d, os, by omega, by first | rfl | go_num, Lib.hid (by rw [HOS.out, HL.out, if_neg (by rw [HXT.out]; exact htx), List.append_nil]), Lib.hid HD.out, by omega, Lib.hid hrw, HFR.out⟩
        case measure => simp [intOf]; omega
    · obtain rfl : j = n := by omega
      have hfull : cs.take j = cs := by rw [← HN.out, List.take_length]
      have hos2 := hos.out
      rw [hfull] at hos2
      have HOS := Lib.hid hos2; have HD := Lib.hid hd.out; have HFR := Lib.hid hfr.out; have HPR := Lib.hid hpr
      have hrw := Lib.hid hrow.out
      clear hos hos2 hfull hd hfr hrow hpr
      have hji : ¬ (j : Int) < (j : Int) := by omega
      go_wp2
      have hp1 := heap_setCell_same wr p 10 _ _ (Value.slice oa d oc) HPR.out
      have hp2 := heap_setCell_same _ p 8 _ _ (Value.int .u64 t) hp1
      have hset := ((Fr.refl (fun k => k = p) wr).setCell (p := ⟨p, 10, none⟩) (.inl rfl) (Value.slice oa d oc)).setCell (p := ⟨p, 8, none⟩) (.inl rfl) (Value.int .u64 t)
      have hr2 := ownsRow_fr hrw.out hset fun k hk e => by have := (ownsRow_lt hrw.out _ hk).1; omega
      rw [HOS.out] at hr2
      rw [HD.out, HOS.out] at hp2 hset ⊢
      rw [HD.out, HOS.out] at hr2
      exact HPOST.out _ _ hp2 hr2 ((HFR.out.mono fun _ h => .inl (.inr h)).trans hset fun k hk => .inl (.inl hk))
end Go.Proofs.YtefepfiijoafbaaGreat
