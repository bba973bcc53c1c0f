/- ShardOnce: a frame with marks; a round's first steps. ShardOnce: a round's next steps: the kinds that are passed by; the box of what is staged. ShardOnce: what is staged of a start, out of the loop over all that is staged. -/
import Derived.RangeFuncLeaves
import Derived.Test.YtefepfiijoafbaaGreatQOnceP
import Derived.Test.YtefepfiijoafbaaGreatQLstIt
import Derived.Test.YtefepfiijoafbaaGreatQLoH
import Derived.Test.YtefepfiijoafbaaGreatQSSame
namespace Go.Proofs.YtefepfiijoafbaaGreat
open Go.RowKit Go.Shelf Go.Maps
attribute [local go_sem] Oper.semAt_some
attribute [local go_sem ↓] Go.wp_at_zero Go.wp_at_succ
attribute [local irreducible] wpQuiet
set_option linter.unusedVariables false
set_option linter.unusedSimpArgs false

/-- The marks that loops over functions leave. -/
def marks (Ds : List Nat) : List Deferred := Ds.map fun D => { target := .collected D, args := #[] }
def frD (n : Nat) (f : Nat → Value) (Ds : List Nat) : Act := { tmps := ((List.range n).map f).toArray, defers := marks Ds }
theorem cut_useD {n : Nat} {K : Act → World → Prop} {W : World} {Ds : List Nat} (tm : Array Value) (hs : tm.size = n) (h : K (frD n (fun i => tm.getD i (.bool false)) Ds) W) : K { tmps := tm, defers := marks Ds } W := by
  rw [cut_mk tm hs]; exact h
theorem cut_useQD {n : Nat} {Q : Exit → Act → World → Prop} {e : Exit} {W : World} {Ds : List Nat} (tm : Array Value) (hs : tm.size = n) (h : Q e (frD n (fun i => tm.getD i (.bool false)) Ds) W) : Q e { tmps := tm, defers := marks Ds } W := by
  rw [cut_mk tm hs]; exact h
theorem wp_frD {n : Nat} {P : Program} {c : Code} {Q : Exit → Act → World → Prop} {W : World} {Ds : List Nat} (tm : Array Value) (hs : tm.size = n) (h : Code.wp P c Q (frD n (fun i => tm.getD i (.bool false)) Ds) W) : Code.wp P c Q { tmps := tm, defers := marks Ds } W := by
  rw [cut_mk tm hs]; exact h
def Marked (W : World) (Ds : List Nat) : Prop := Ds.Nodup ∧ ∀ D ∈ Ds, W.heap[D]? = some (.deferred (some []))
theorem Marked.fr {W W' : World} {T : Nat → Prop} {Ds : List Nat} (h : Marked W Ds) (hf : Fr T W W') (hT : ∀ D ∈ Ds, ¬ T D) : Marked W' Ds := ⟨h.1, fun D hD => (hf.at (hT D hD) (lt_of_block (h.2 D hD))).trans (h.2 D hD)⟩
/-- A function leaves: the marks are taken, one by one. -/
theorem leaves_marks {F : Fence} {n : Nat} {P : Program} {fn : Func} {tmps : Array Value} {R : Ending → World → Prop} : ∀ (Ds : List Nat) (W : World), Marked W Ds → (∀ W', Fr (fun k => k ∈ Ds) W W' → LeavesInM F n P fn tmps R [] .returning W') → LeavesInM F n P fn tmps R (marks Ds) .returning W
  | [], W, _, h => h W (Fr.refl _ _)
  | D :: Ds, W, hm, h => by
    obtain ⟨h1, h2⟩ := hm
    obtain ⟨hn, hnd⟩ := List.nodup_cons.1 h1
    have hD := h2 D (by simp)
    have hf : Fr (fun k => k = D) W (W.putObj D (.deferred none)) := (Fr.refl (fun k => k = D) W).putObj (l := D) (.inl rfl) _
    refine ⟨by simp, .inl ⟨D, _, rfl, run_takeDeferred hD, ?_⟩⟩
    refine leaves_marks Ds _ (Marked.fr ⟨hnd, fun E hE => h2 E (by simp [hE])⟩ hf fun E hE e => hn (e ▸ hE)) fun W' hf' => h W' ?_
    exact (hf.mono fun k e => .inl (by simp [e])).trans hf' fun k hk => .inl (by simp [hk])

noncomputable def onB (n : Nat) : Code := lvSuf n ((Tryz.f4.body).getD .skip)
noncomputable def onL : Code := lvLoop (lvIn (lvSnd (lvFst (onB 5))))
noncomputable def onC (n : Nat) : Code := lvSuf n (lvIn (lvFst (lvSnd onL)))

/-- A command in a box of its own. -/
abbrev OpBox (W : World) (bo : Nat) (o : Op) (V : OpS) : Prop := W.heap[bo]? = some (.cells (opEnc o V).toArray 38 (0, 0))

set_option maxRecDepth 100000 in
set_option maxHeartbeats 4000000 in
/-- o := l[i] -/
theorem onR10 {K : Act → World → Prop} {Q : Exit → Act → World → Prop} (W : World) (b k n : Nat) (a : Option Addr) (cap : Nat) (xs : List (Op × OpS)) (hr : RowsK opE 16 W b (.slice a n cap) xs) (hk : k < xs.length) (f : Nat → Value) (Ds : List Nat)
    (h0 : f 0 = .slice a n cap) (h5 : f 5 = .int .i64 k)
    (hK : ∀ f' W' bo, f' 0 = f 0 → f' 2 = f 2 → f' 3 = f 3 → f' 4 = f 4 → f' 5 = f 5 → f' 6 = .pointer (some ⟨bo, 0, none⟩) → W.heap.size ≤ bo → OpBox W' bo xs[k].1 xs[k].2 → Fr N0 W W' → K (frD 200 f' Ds) W') :
    Code.wp Tryz.prog (lvFst (onC 0)) (Exit.then K Q) (frD 200 f Ds) W := by
  obtain ⟨e1, r1, r2, r3⟩ := rowk_form hr
  obtain ⟨off, rfl⟩ := r3 (by omega)
  have hat := op_at (rowk_at (e1 ▸ hr) k hk)
  have hki : (k : Int) < (n : Int) := by omega
  have HK := Lib.hid hK
  clear hK hr r3 e1
  obtain ⟨x, hx⟩ : ∃ x, xs[k] = x := ⟨_, rfl⟩
  simp only [hx] at hat HK
  obtain ⟨⟨kd, st, cm, ws, ⟨sp, sy, sl, se, sm, so, sr, sc⟩, pr, at_, nt, np⟩, ⟨wa, wc, ta, tc, pa', pc⟩⟩ := x
  simp only at hat HK
  have hop := opCells_eq (⟨kd, st, cm, ws, ⟨sp, sy, sl, se, sm, so, sr, sc⟩, pr, at_, nt, np⟩ : Op) (⟨wa, wc, ta, tc, pa', pc⟩ : OpS)
  have HOP := Lib.hid hop
  obtain ⟨nw, hnw⟩ : ∃ n, ws.length = n := ⟨_, rfl⟩
  have HNW := Lib.hid hnw
  simp only [hnw] at hat
  clear hx hnw hop
  obtain ⟨c0, c1, c2, c3, c4, c5, c6, c7, c8, c9, c10, c11, c12, c13, c14, c15⟩ := hat
  show Code.wp _ _ _ { tmps := #[f 0, f 1, f 2, f 3, f 4, f 5, f 6, f 7, f 8, f 9, f 10, f 11, f 12, f 13, f 14, f 15, f 16, f 17, f 18, f 19, f 20, f 21, f 22, f 23, f 24, f 25, f 26, f 27, f 28, f 29, f 30, f 31, f 32, f 33, f 34, f 35, f 36, f 37, f 38, f 39, f 40, f 41, f 42, f 43, f 44, f 45, f 46, f 47, f 48, f 49, f 50, f 51, f 52, f 53, f 54, f 55, f 56, f 57, f 58, f 59, f 60, f 61, f 62, f 63, f 64, f 65, f 66, f 67, f 68, f 69, f 70, f 71, f 72, f 73, f 74, f 75, f 76, f 77, f 78, f 79, f 80, f 81, f 82, f 83, f 84, f 85, f 86, f 87, f 88, f 89, f 90, f 91, f 92, f 93, f 94, f 95, f 96, f 97, f 98, f 99, f 100, f 101, f 102, f 103, f 104, f 105, f 106, f 107, f 108, f 109, f 110, f 111, f 112, f 113, f 114, f 115, f 116, f 117, f 118, f 119, f 120, f 121, f 122, f 123, f 124, f 125, f 126, f 127, f 128, f 129, f 130, f 131, f 132, f 133, f 134, f 135, f 136, f 137, f 138, f 139, f 140, f 141, f 142, f 143, f 144, f 145, f 146, f 147, f 148, f 149, f 150, f 151, f 152, f 153, f 154, f 155, f 156, f 157, f 158, f 159, f 160, f 161, f 162, f 163, f 164, f 165, f 166, f 167, f 168, f 169, f 170, f 171, f 172, f 173, f 174, f 175, f 176, f 177, f 178, f 179, f 180, f 181, f 182, f 183, f 184, f 185, f 186, f 187, f 188, f 189, f 190, f 191, f 192, f 193, f 194, f 195, f 196, f 197, f 198, f 199], defers := marks Ds } _
  rw [h0, h5]
  have H0 := Lib.hid h0; have H5 := Lib.hid h5
  clear h0 h5
  conv => arg 2; whnf
  go_wp2_with fail
  refine cut_useD (n := 200) (K := K) _ rfl ?_
  exact HK.out _ _ W.heap.size H0.out.symm rfl rfl rfl H5.out.symm rfl (Nat.le_refl _) (by unfold OpBox; rw [opCells_eq]; simp only [HNW.out]; exact World.alloc_heap_new _ _) ((Fr.refl _ _).alloc _)
end Go.Proofs.YtefepfiijoafbaaGreat
namespace Go.Proofs.YtefepfiijoafbaaGreat
open Go.RowKit Go.Shelf Go.Maps
attribute [local go_sem] Oper.semAt_some
attribute [local go_sem ↓] Go.wp_at_zero Go.wp_at_succ
attribute [local irreducible] wpQuiet
set_option linter.unusedVariables false
set_option linter.unusedSimpArgs false

/-- Slots that are as they were. -/
def Keep (l : List Nat) (f f' : Nat → Value) : Prop := ∀ i ∈ l, f' i = f i
theorem Keep.at {l : List Nat} {f f' : Nat → Value} (h : Keep l f f') (i : Nat) (hi : i ∈ l) : f' i = f i := h i hi
theorem Keep.trans {l m : List Nat} {f f' f2 : Nat → Value} (h : Keep l f f') (g : Keep m f' f2) (hm : ∀ i ∈ l, i ∈ m) : Keep l f f2 := fun i hi => (g i (hm i hi)).trans (h i hi)
theorem Keep.sub {l m : List Nat} {f f' : Nat → Value} (h : Keep m f f') (hm : ∀ i ∈ l, i ∈ m) : Keep l f f' := fun i hi => h i (hm i hi)
theorem keep_mk {l : List Nat} {f f' : Nat → Value} (h : (l.map f') = l.map f) : Keep l f f' := fun i hi => by
  induction l with
  | nil => cases hi
  | cons x l ih =>
    simp only [List.map_cons, List.cons.injEq] at h
    rcases List.mem_cons.1 hi with rfl | hi
    · exact h.1
    · exact ih h.2 hi

set_option maxRecDepth 100000 in
set_option maxHeartbeats 4000000 in
theorem onR11 {K : Act → World → Prop} {Q : Exit → Act → World → Prop} (W : World) (bo : Nat) (o : Op) (V : OpS) (hB : OpBox W bo o V) (f : Nat → Value) (Ds : List Nat) (h6 : f 6 = .pointer (some ⟨bo, 0, none⟩))
    (hK : o.kind ≠ 4 → o.kind ≠ 5 → o.kind ≠ 6 → ∀ f', Keep [0, 2, 3, 4, 5, 6] f f' → K (frD 200 f' Ds) W)
    (hQ : ∀ f', Keep [0, 2, 3, 4, 5] f f' → Q (.exit 1) (frD 200 f' Ds) W) :
    Code.wp Tryz.prog (lvFst (onC 1)) (Exit.then K Q) (frD 200 f Ds) W := by
  have c0 := (box_cells hB).1 0
  rw [opCells_eq] at c0
  have HK := Lib.hid hK; have HQ := Lib.hid hQ; have H6 := Lib.hid h6
  clear hK hQ hB
  obtain ⟨kd, hkd⟩ : ∃ x, o.kind = x := ⟨_, rfl⟩
  rw [hkd] at c0 HK
  clear hkd
  simp only [List.getElem?_toArray, List.getElem?_cons_zero] at c0
  show Code.wp _ _ _ { tmps := #[f 0, f 1, f 2, f 3, f 4, f 5, f 6, f 7, f 8, f 9, f 10, f 11, f 12, f 13, f 14, f 15, f 16, f 17, f 18, f 19, f 20, f 21, f 22, f 23, f 24, f 25, f 26, f 27, f 28, f 29, f 30, f 31, f 32, f 33, f 34, f 35, f 36, f 37, f 38, f 39, f 40, f 41, f 42, f 43, f 44, f 45, f 46, f 47, f 48, f 49, f 50, f 51, f 52, f 53, f 54, f 55, f 56, f 57, f 58, f 59, f 60, f 61, f 62, f 63, f 64, f 65, f 66, f 67, f 68, f 69, f 70, f 71, f 72, f 73, f 74, f 75, f 76, f 77, f 78, f 79, f 80, f 81, f 82, f 83, f 84, f 85, f 86, f 87, f 88, f 89, f 90, f 91, f 92, f 93, f 94, f 95, f 96, f 97, f 98, f 99, f 100, f 101, f 102, f 103, f 104, f 105, f 106, f 107, f 108, f 109, f 110, f 111, f 112, f 113, f 114, f 115, f 116, f 117, f 118, f 119, f 120, f 121, f 122, f 123, f 124, f 125, f 126, f 127, f 128, f 129, f 130, f 131, f 132, f 133, f 134, f 135, f 136, f 137, f 138, f 139, f 140, f 141, f 142, f 143, f 144, f 145, f 146, f 147, f 148, f 149, f 150, f 151, f 152, f 153, f 154, f 155, f 156, f 157, f 158, f 159, f 160, f 161, f 162, f 163, f 164, f 165, f 166, f 167, f 168, f 169, f 170, f 171, f 172, f 173, f 174, f 175, f 176, f 177, f 178, f 179, f 180, f 181, f 182, f 183, f 184, f 185, f 186, f 187, f 188, f 189, f 190, f 191, f 192, f 193, f 194, f 195, f 196, f 197, f 198, f 199], defers := marks Ds } _
  rw [h6]
  clear h6
  conv => arg 2; whnf
  by_cases h4 : kd = 4
  · subst h4
    go_wp2_with fail
    refine cut_useQD (n := 200) (Q := Q) (e := .exit 1) _ rfl ?_
    exact HQ.out _ (keep_mk rfl)
  · have b4 : ((kd : Int) == 4) = false := by simpa using h4
    by_cases h5 : kd = 5
    · subst h5
      go_wp2_with fail
      refine cut_useQD (n := 200) (Q := Q) (e := .exit 1) _ rfl ?_
      exact HQ.out _ (keep_mk rfl)
    · have b5 : ((kd : Int) == 5) = false := by simpa using h5
      by_cases h6 : kd = 6
      · subst h6
        go_wp2_with fail
        refine cut_useQD (n := 200) (Q := Q) (e := .exit 1) _ rfl ?_
        exact HQ.out _ (keep_mk rfl)
      · have b6 : ((kd : Int) == 6) = false := by simpa using h6
        have HN := Lib.hid (And.intro h4 (And.intro h5 h6))
        clear h4 h5 h6
        go_wp2_with fail
        refine cut_useD (n := 200) (K := K) _ rfl ?_
        exact HK.out HN.out.1 HN.out.2.1 HN.out.2.2 _ (keep_mk (by simp only [List.map_cons, List.map_nil, H6.out]; rfl))
set_option maxRecDepth 100000 in
set_option maxHeartbeats 4000000 in
/-- var staged -/
theorem onR12 {K : Act → World → Prop} {Q : Exit → Act → World → Prop} (W : World) (f : Nat → Value) (Ds : List Nat)
    (hK : ∀ f' W' bg, Keep [0, 2, 3, 4, 5, 6] f f' → f' 7 = .pointer (some ⟨bg, 0, none⟩) → W.heap.size ≤ bg → W'.heap[bg]? = some (.cells #[.slice none 0 0] 34 (0, 0)) → Fr N0 W W' → K (frD 200 f' Ds) W') :
    Code.wp Tryz.prog (lvFst (onC 2)) (Exit.then K Q) (frD 200 f Ds) W := by
  have HK := Lib.hid hK
  clear hK
  show Code.wp _ _ _ { tmps := #[f 0, f 1, f 2, f 3, f 4, f 5, f 6, f 7, f 8, f 9, f 10, f 11, f 12, f 13, f 14, f 15, f 16, f 17, f 18, f 19, f 20, f 21, f 22, f 23, f 24, f 25, f 26, f 27, f 28, f 29, f 30, f 31, f 32, f 33, f 34, f 35, f 36, f 37, f 38, f 39, f 40, f 41, f 42, f 43, f 44, f 45, f 46, f 47, f 48, f 49, f 50, f 51, f 52, f 53, f 54, f 55, f 56, f 57, f 58, f 59, f 60, f 61, f 62, f 63, f 64, f 65, f 66, f 67, f 68, f 69, f 70, f 71, f 72, f 73, f 74, f 75, f 76, f 77, f 78, f 79, f 80, f 81, f 82, f 83, f 84, f 85, f 86, f 87, f 88, f 89, f 90, f 91, f 92, f 93, f 94, f 95, f 96, f 97, f 98, f 99, f 100, f 101, f 102, f 103, f 104, f 105, f 106, f 107, f 108, f 109, f 110, f 111, f 112, f 113, f 114, f 115, f 116, f 117, f 118, f 119, f 120, f 121, f 122, f 123, f 124, f 125, f 126, f 127, f 128, f 129, f 130, f 131, f 132, f 133, f 134, f 135, f 136, f 137, f 138, f 139, f 140, f 141, f 142, f 143, f 144, f 145, f 146, f 147, f 148, f 149, f 150, f 151, f 152, f 153, f 154, f 155, f 156, f 157, f 158, f 159, f 160, f 161, f 162, f 163, f 164, f 165, f 166, f 167, f 168, f 169, f 170, f 171, f 172, f 173, f 174, f 175, f 176, f 177, f 178, f 179, f 180, f 181, f 182, f 183, f 184, f 185, f 186, f 187, f 188, f 189, f 190, f 191, f 192, f 193, f 194, f 195, f 196, f 197, f 198, f 199], defers := marks Ds } _
  conv => arg 2; whnf
  go_wp2_with fail
  refine cut_useD (n := 200) (K := K) _ rfl ?_
  exact HK.out _ _ W.heap.size (keep_mk rfl) rfl (Nat.le_refl _) (World.alloc_heap_new _ _) ((Fr.refl _ _).alloc _)
end Go.Proofs.YtefepfiijoafbaaGreat
namespace Go.Proofs.YtefepfiijoafbaaGreat
open Go.RowKit Go.Shelf Go.Maps
attribute [local go_sem] Oper.semAt_some
attribute [local go_sem ↓] Go.wp_at_zero Go.wp_at_succ
attribute [local irreducible] wpQuiet
set_option linter.unusedVariables false
set_option linter.unusedSimpArgs false

/-- What the loop has found so far. -/
def StGot (st : Int) (pre : List StEl) (ws : List Wr) : Prop := (∀ e ∈ pre, e.x = st → ws = e.ws) ∧ ((∀ e ∈ pre, e.x ≠ st) → ws = [])
theorem stGot_nil (st : Int) : StGot st [] [] := ⟨fun e h => (by cases h), fun _ => rfl⟩
theorem stGot_skip {st : Int} {pre : List StEl} {ws : List Wr} {e : StEl} (h : StGot st pre ws) (he : e.x ≠ st) : StGot st (pre ++ [e]) ws :=
  ⟨fun d hd hx => by
    rcases List.mem_append.1 hd with h1 | h1
    · exact h.1 d h1 hx
    · simp at h1; subst h1; exact absurd hx he, fun hn => h.2 fun d hd => hn d (by simp [hd])⟩
theorem stGot_take {s : SS} {st : Int} {pre : List StEl} {e : StEl} (hh : StHist s (pre ++ [e])) (he : e.x = st) : StGot st (pre ++ [e]) e.ws :=
  ⟨fun d hd hx => by
    have h1 := hh.2 d hd
    have h2 := hh.2 e (by simp)
    rw [hx, ← he, h2] at h1
    exact Option.some.inj h1, fun hn => absurd he (hn e (by simp))⟩
theorem stGot_end {s : SS} {st : Int} {xs : List StEl} {ws : List Wr} (hf : StFin s xs) (h : StGot st xs ws) : ws = (s.staged st).getD [] := by
  cases hs : s.staged st with
  | none =>
    refine h.2 fun e he hx => ?_
    have := hf.1.2 e he
    rw [hx, hs] at this; cases this
  | some us =>
    have hm := hf.2 st (by rw [hs]; simp)
    obtain ⟨e, he, hx⟩ := List.mem_map.1 hm
    have h1 := hf.1.2 e he
    rw [hx, hs] at h1
    rw [h.1 e he hx]
    exact (Option.some.inj h1).symm
/-- The loop's invariant. -/
def StI (bg bo : Nat) (o : Op) (V : OpS) (Z S : Nat → Prop) (pre : List StEl) (W : World) : Prop :=
  S bg ∧ S bo ∧ OpBox W bo o V ∧ ∃ v b ws, W.heap[bg]? = some (.cells #[v] 34 (0, 0)) ∧ Wrs W b v ws ∧ (0 < ws.length → Z b) ∧ StGot o.start pre ws
theorem stI_stable (bg bo : Nat) (o : Op) (V : OpS) : StableZ (StI bg bo o V) := by
  rintro Z S pre A B ⟨h1, h2, h3, v, b, ws, h4, h5, h6, h7⟩ hs hz
  exact ⟨h1, h2, (hs.block _ h2 (lt_of_block h3)).trans h3, v, b, ws, (hs.block _ h1 (lt_of_block h4)).trans h4,
    rowsK_frT (enc := Wr.enc) (n := 8) (fun _ => rfl) h5 (T := fun k => ¬ Z k) (SameOn.mono hz fun k hk _ => Classical.not_not.1 hk) fun h0 hn => hn (h6 h0), h6, h7⟩
theorem enters_staged1 (args : Array Value) (w : World) : (callFunc 60 args).run Tryz.prog w = .ok (.enter 60 args) w := enters_of Tryz.func60 (by kernel_rfl) rfl args w

set_option maxRecDepth 100000 in
set_option maxHeartbeats 8000000 in
theorem onR13 {K : Act → World → Prop} {Q : Exit → Act → World → Prop} (W : World) (R : Nat → Prop) (p bs bo bg N : Nat) (s : SS) (o : Op) (V : OpS) (f : Nat → Value) (Ds : List Nat) (hst : IsState W R p s N) (hR : ∀ k, R k → k < W.heap.size) (hF : s.Fine N) (hN : N ≤ 100000)
    (hbs : W.heap[bs]? = some (.cells #[.pointer (some ⟨p, 0, none⟩)] 27 (0, 0))) (hbo : OpBox W bo o V) (hbg : W.heap[bg]? = some (.cells #[.slice none 0 0] 34 (0, 0))) (hno : ¬ R bo) (hng : ¬ R bg) (hgo : bg ≠ bo)
    (h3 : f 3 = .pointer (some ⟨bs, 0, none⟩)) (h6 : f 6 = .pointer (some ⟨bo, 0, none⟩)) (h7 : f 7 = .pointer (some ⟨bg, 0, none⟩))
    (hK : ∀ f' W' D v b, Keep [0, 2, 3, 4, 5, 6, 7] f f' → W'.heap[D]? = some (.deferred (some [])) → W.heap.size ≤ D → W'.heap[bg]? = some (.cells #[v] 34 (0, 0)) → Wrs W' b v ((s.staged o.start).getD []) → (0 < ((s.staged o.start).getD []).length → W.heap.size ≤ b ∧ b ≠ D) → OpBox W' bo o V → Fr (fun k => k = bg ∨ k = bo) W W' → K (frD 200 f' (D :: Ds)) W') :
    Code.wp Tryz.prog (lvFst (onC 3)) (Exit.then K Q) (frD 200 f Ds) W := by
  have HK := Lib.hid hK
  have cs := cell_of_one hbs
  have HST := Lib.hid hst; have HR := Lib.hid hR; have HF := Lib.hid hF; have HBS := Lib.hid hbs; have HBO := Lib.hid hbo; have HBG := Lib.hid hbg; have HNO := Lib.hid hno; have HNG := Lib.hid hng
  have H3 := Lib.hid h3; have H6 := Lib.hid h6; have H7 := Lib.hid h7
  clear hK hst hR hF hbs hbo hbg hno hng
  show Code.wp _ _ _ { tmps := #[f 0, f 1, f 2, f 3, f 4, f 5, f 6, f 7, f 8, f 9, f 10, f 11, f 12, f 13, f 14, f 15, f 16, f 17, f 18, f 19, f 20, f 21, f 22, f 23, f 24, f 25, f 26, f 27, f 28, f 29, f 30, f 31, f 32, f 33, f 34, f 35, f 36, f 37, f 38, f 39, f 40, f 41, f 42, f 43, f 44, f 45, f 46, f 47, f 48, f 49, f 50, f 51, f 52, f 53, f 54, f 55, f 56, f 57, f 58, f 59, f 60, f 61, f 62, f 63, f 64, f 65, f 66, f 67, f 68, f 69, f 70, f 71, f 72, f 73, f 74, f 75, f 76, f 77, f 78, f 79, f 80, f 81, f 82, f 83, f 84, f 85, f 86, f 87, f 88, f 89, f 90, f 91, f 92, f 93, f 94, f 95, f 96, f 97, f 98, f 99, f 100, f 101, f 102, f 103, f 104, f 105, f 106, f 107, f 108, f 109, f 110, f 111, f 112, f 113, f 114, f 115, f 116, f 117, f 118, f 119, f 120, f 121, f 122, f 123, f 124, f 125, f 126, f 127, f 128, f 129, f 130, f 131, f 132, f 133, f 134, f 135, f 136, f 137, f 138, f 139, f 140, f 141, f 142, f 143, f 144, f 145, f 146, f 147, f 148, f 149, f 150, f 151, f 152, f 153, f 154, f 155, f 156, f 157, f 158, f 159, f 160, f 161, f 162, f 163, f 164, f 165, f 166, f 167, f 168, f 169, f 170, f 171, f 172, f 173, f 174, f 175, f 176, f 177, f 178, f 179, f 180, f 181, f 182, f 183, f 184, f 185, f 186, f 187, f 188, f 189, f 190, f 191, f 192, f 193, f 194, f 195, f 196, f 197, f 198, f 199], defers := marks Ds } _
  rw [h3, h6, h7]
  clear h3 h6 h7
  conv => arg 2; whnf
  go_wp2_with fail
  refine (sStaged_any W p).mono ?_
  rintro e w2 ⟨rfl, hw2⟩
  have hf2 : Fr N0 W w2 := by rw [hw2]; exact (Fr.refl _ _).alloc _
  have hBm : w2.heap[W.heap.size]? = some (.cells #[.pointer (some ⟨p, 0, none⟩)] 27 (0, 0)) := by rw [hw2]; exact World.alloc_heap_new _ _
  have hz2 : w2.heap.size = W.heap.size + 1 := by rw [hw2]; simp
  have hseq := staged1_seq w2 W.heap.size R p s N (HST.out.fr hf2 fun _ _ => id) (fun k hk => by have := HR.out k hk; omega) HF.out hN hBm
  have hbo2 : OpBox w2 bo o V := (hf2.at id (lt_of_block HBO.out)).trans HBO.out
  have hbg2 := (hf2.at id (lt_of_block HBG.out)).trans HBG.out
  have lo := lt_of_block HBO.out; have lg := lt_of_block HBG.out
  have HSEQ := Lib.hid hseq; have HF2 := Lib.hid hf2; have HBO2 := Lib.hid hbo2; have HBG2 := Lib.hid hbg2
  clear hseq hf2 hbo2 hbg2 hBm hw2 cs
  go_wp2_with fail
  refine wp_rangeP (encs := StEl.encs) (ok := StEl.ok) rfl enters_staged1 HSEQ.out (fun Z x A B => StEl.ok_same) (SameOn.refl _ _) (fun _ => rfl)
    (fun k => k = bg ∨ k = bo) (fun k hk => ?hS0) (fun k hk => ?hRl)
    (StI bg bo o V) (fun _ _ _ _ _ => False) (stI_stable bg bo o V) (fun _ _ _ _ _ _ h _ _ => h) (fun Z Wx hf hZ => ?h0)
    (fun x => { tmps := #[f 0, f 1, f 2, .pointer (some ⟨bs, 0, none⟩), f 4, f 5, .pointer (some ⟨bo, 0, none⟩), .pointer (some ⟨bg, 0, none⟩), .int .u64 x.x, x.v, f 10, f 11, f 12, f 13, f 14, f 15, f 16, f 17, f 18, f 19, f 20, f 21, f 22, f 23, f 24, f 25, f 26, f 27, f 28, f 29, f 30, f 31, f 32, f 33, f 34, f 35, f 36, f 37, f 38, f 39, f 40, f 41, f 42, f 43, f 44, f 45, f 46, f 47, f 48, f 49, f 50, f 51, f 52, f 53, .pointer (some ⟨p, 0, none⟩), .func (.func 60) #[] #[.pointer (some ⟨W.heap.size, 0, none⟩)], .int .u64 x.x, x.v, f 58, f 59, f 60, f 61, f 62, f 63, f 64, f 65, f 66, f 67, f 68, f 69, f 70, f 71, f 72, f 73, f 74, f 75, f 76, f 77, f 78, f 79, f 80, f 81, f 82, f 83, f 84, f 85, f 86, f 87, f 88, f 89, f 90, f 91, f 92, f 93, f 94, f 95, f 96, f 97, f 98, f 99, f 100, f 101, f 102, f 103, f 104, f 105, f 106, f 107, f 108, f 109, f 110, f 111, f 112, f 113, f 114, f 115, f 116, f 117, f 118, f 119, f 120, f 121, f 122, f 123, f 124, f 125, f 126, f 127, f 128, f 129, f 130, f 131, f 132, f 133, f 134, f 135, f 136, f 137, f 138, f 139, f 140, f 141, f 142, f 143, f 144, f 145, f 146, f 147, f 148, f 149, f 150, f 151, f 152, f 153, f 154, f 155, f 156, f 157, f 158, f 159, f 160, f 161, f 162, f 163, f 164, f 165, f 166, f 167, f 168, f 169, f 170, f 171, f 172, f 173, f 174, f 175, f 176, f 177, f 178, f 179, f 180, f 181, f 182, f 183, f 184, f 185, f 186, f 187, f 188, f 189, f 190, f 191, f 192, f 193, f 194, f 195, f 196, f 197, f 198, f 199], defers := [] }) ?assign ?body ?done ?stop
  case hS0 =>
    rcases hk with rfl | rfl
    · exact ⟨fun h => h.elim HNG.out fun e => by omega, by omega⟩
    · exact ⟨fun h => h.elim HNO.out fun e => by omega, by omega⟩
  case hRl =>
    rcases hk with h | h
    · have := HR.out k h; omega
    · omega
  case h0 => exact ⟨.inl rfl, .inr rfl, (hf.at id (by omega)).trans HBO2.out, _, 0, [], (hf.at id (by omega)).trans HBG2.out, RowsK.nil _ _ _ _, fun h => absurd h (by simp), stGot_nil _⟩
  case assign =>
    intro l x W2 K hK
    simp only [StEl.encs]
    gi_wp2
    exact hK
  case body =>
    rintro l Z S pre x Wx hZ ⟨i1, i2, i3, v, b, ws, i4, i5, i6, i7⟩ hh hok hRW hbd
    have c1 := (box_cells i3).1 1
    rw [opCells_eq] at c1
    simp only [List.getElem?_toArray, List.getElem?_cons_zero, List.getElem?_cons_succ] at c1
    have cg := cell_of_one i4
    have fg := free_of_one i4
    have hgrow : ∀ (Wy : World), Wy.heap.size = Wx.heap.size → Grows S S Wx Wy := fun Wy hz j hj => ⟨.inl hj, by have := (hbd j hj).2; omega⟩
    have HG := Lib.hid hgrow
    have I3 := Lib.hid i3; have I4 := Lib.hid i4; have I5 := Lib.hid i5; have I6 := Lib.hid i6; have I7 := Lib.hid i7; have HH := Lib.hid hh; have HOK := Lib.hid hok
    clear i3 i4 i5 i6 i7 hh hok hgrow
    obtain ⟨x, vx, bx, wx⟩ := x
    obtain ⟨st, hst⟩ : ∃ st, o.start = st := ⟨_, rfl⟩
    rw [hst] at c1 I7
    have HST2 := Lib.hid hst
    clear hst
    have hv := HOK.out.1
    obtain ⟨av, ov, cv, hv, -⟩ := hv
    simp only at hv
    subst hv
    simp only at HH HOK ⊢
    by_cases he : x = st
    · subst he
      gi_wp2
      have hz : (Wx.setCell ⟨bg, 0, none⟩ (.slice av wx.length cv)).heap.size = Wx.heap.size := by simp
      have hfs : Fr (fun k => k = bg) Wx (Wx.setCell ⟨bg, 0, none⟩ (.slice av wx.length cv)) := (Fr.refl (fun k => k = bg) Wx).setCell (.inl rfl) _
      refine ⟨S, ⟨i1, i2, (hfs.at (fun e => hgo e.symm) (lt_of_block I3.out)).trans I3.out, _, bx, wx, one_setCell I4.out, ?_, HOK.out.2, ?_⟩, hfs.mono fun k e => .inl (e ▸ i1), HG.out _ hz⟩
      · exact rowsK_frT (enc := Wr.enc) (n := 8) (fun _ => rfl) HOK.out.1 hfs fun h0 e => (hZ bg (e ▸ HOK.out.2 h0)).2.2 i1
      · rw [HST2.out]; exact stGot_take HH.out rfl
    · have hb : ((x : Int) == st) = false := by simpa using he
      have HE := Lib.hid he
      clear he
      gi_wp2
      exact ⟨S, ⟨i1, i2, I3.out, v, b, ws, I4.out, I5.out, I6.out, by rw [HST2.out]; exact stGot_skip I7.out HE.out⟩, Fr.refl _ _, HG.out _ rfl⟩
  case done =>
    intro D Z S xs Wx hfin hZ hI hfr hgr hD hDl hDS hDZ
    obtain ⟨i1, i2, i3, v, b, ws, i4, i5, i6, i7⟩ := hI
    have hws := stGot_end hfin i7
    subst hws
    show K _ _
    refine cut_useD (n := 200) (K := K) (Ds := D :: Ds) _ rfl ?_
    exact HK.out _ Wx D v b (keep_mk (by simp only [List.map_cons, List.map_nil, H3.out, H6.out, H7.out]; rfl)) hD (by omega) i4 i5 (fun h0 => ⟨by have := (hZ b (i6 h0)).1; omega, fun e => hDZ (e ▸ i6 h0)⟩) i3 ((HF2.out.mono (T' := fun k => k = bg ∨ k = bo) fun _ h => h.elim).trans hfr fun k h => .inl h)
  case stop => exact fun _ _ _ _ _ _ _ h => h.elim
end Go.Proofs.YtefepfiijoafbaaGreat
