/- Count by program and document; the document's Node. Edges by program and document. -/
import Derived.Test.YtefepfiijoafbaaGreatQIEdges
import Derived.Test.YtefepfiijoafbaaGreatQXBack2
import Derived.Test.YtefepfiijoafbaaGreatQLists
namespace Go.Proofs.YtefepfiijoafbaaGreat
open Go.RowKit Go.Shelf Go.Maps Go.Sort
attribute [local go_sem] Oper.semAt_some
attribute [local irreducible] wpQuiet
set_option linter.unusedVariables false
set_option linter.unusedSimpArgs false

/-- The nodes that have this one as a value, rising. -/
structure BacksAre (l : PL) (t u : Int) (bs : List Int) : Prop where
  rises : RisesBy id bs
  mem : ∀ x, x ∈ bs ↔ (haveAt l t x).any (eqVal (nodeV u)) = true
theorem exists_backs (l : PL) (t u : Int) : ∃ bs, BacksAre l t u bs := by
  obtain ⟨ks, hk⟩ := exists_nodes l t
  obtain ⟨bs, h1, h2⟩ := exists_rises (fun x => (haveAt l t x).any (eqVal (nodeV u)) = true) ks fun x hx => (hk.mem x).2 fun e => by rw [e] at hx; simp at hx
  exact ⟨bs, h1, h2⟩
theorem NewInts.are {W : World} {P : Int → Prop} {e : Ending} {w' : World} (h : NewInts W P e w') {bs : List Int} (h1 : RisesBy id bs) (h2 : ∀ u, u ∈ bs ↔ P u) : ∃ a c, e = .returned (.slice a bs.length c) ∧ w'.ownsRow W.heap.size 33 1 (.slice a bs.length c) bs.length (bs.map (Value.int .u64)) ∧ Fr N0 W w' := by
  obtain ⟨v, xs, rfl, hr, g1, g2, hf⟩ := h
  obtain rfl := rises_unique g1 h1 fun x => (g2 x).trans (h2 x).symm
  obtain ⟨a, c, rfl⟩ := row_form hr
  exact ⟨a, c, rfl, hr, hf⟩
theorem BacksAre.wf {l : PL} {N : Nat} {t u : Int} {bs : List Int} (h : BacksAre l t u bs) (hl : l.AtOk N) : ∀ x ∈ bs, (Lit.int .u64 x).wf = true := fun x hx => (haveAt_ok hl t).key x fun e => by
  have := (h.mem x).1 hx
  rw [e] at this; simp at this
set_option maxRecDepth 100000 in
set_option maxHeartbeats 1000000 in
theorem r19Node_any (W : World) (u : Int) : Calls Tryz.prog 112 #[.int .u64 u] W fun e w' => e = .returned (.agg (nodeV u).enc.toArray) ∧ Fr N0 W w' := by
  go_enter Tryz.func112, Tryz.ntmps112
  go_wp2_with (go_loud (refine wpList_store_row rfl 57 _ _ rfl W.heap.size _ rfl rfl 57 _ (World.alloc_heap_new _ _) valX_size rfl (by simp [Value.oneCell']) ?_))
  refine bodyPost_ret_by (results_cell_row rfl _ _ W.heap.size 57 _ (0, 0) _ rfl (setRow_heap _ _ _ _ _ _ (World.alloc_heap_new _ _)) Tryz.underlying57 rfl valX_size) rfl ?_
  exact ⟨rfl, ((Fr.refl N0 W).alloc _).trans (fr_setRow _ _ _) fun k hk => .inr (by rw [hk]; exact Nat.le_refl _)⟩
/-- What Count and Edges tell. -/
noncomputable def cntR (l : PL) (t u : Int) (bs : List Int) (back : Bool) : Nat := if edgedR false back (l.s.ty != 4) l.s.rev (decide (t < l.marked)) = 0 then (if back then bs.length else (haveAt l t u).length) else 0
noncomputable def edgesR (l : PL) (t u : Int) (bs : List Int) (back : Bool) : List Int := if edgedR true back (l.s.ty != 4) l.s.rev (decide (t < l.marked)) = 0 then (if back then bs else (haveAt l t u).map (·.u)) else []
section
variable (W : World) (R : Nat → Prop) (p : Nat) (l : PL) (N : Nat) (h : IsPL W R p l) (hl : l.AtOk N) (hN : N ≤ 8000000000) (t u : Int) (hu : (Lit.int .u64 u).wf = true) (bs : List Int) (hb : BacksAre l t u bs) (back : Bool)
include h hl hN hu hb
set_option maxRecDepth 100000 in
set_option maxHeartbeats 2000000 in
theorem iCount_any : Calls Tryz.prog 44 #[.pointer (some ⟨p, 0, none⟩), .int .u64 t, .bool back, .int .u64 u] W fun e w' => e = .returned (.tuple #[.int .i64 (cntR l t u bs back), .int .i64 (edgedR false back (l.s.ty != 4) l.s.rev (decide (t < l.marked)))]) ∧ Fr N0 W w' := by
  have hed := edged_any W R p l h hl.pred t false back
  have hbk := fun W' (hf : Fr N0 W W') => (pBacks_any W' R p l N (h.fr hf fun _ _ => id) hl hN (nodeV u) t).mono fun e w2 hh => hh.are hb.rises hb.mem
  have hva := fun W' (hf : Fr N0 W W') => pVals_any W' R p l N (h.fr hf fun _ _ => id) hl hN u t hu
  unfold cntR
  simp only [nodeV, Val.enc] at hbk
  obtain ⟨E, hE⟩ : ∃ E, edgedR false back (l.s.ty != 4) l.s.rev (decide (t < l.marked)) = E := ⟨_, rfl⟩
  rw [hE] at hed ⊢
  obtain ⟨vs, hvs⟩ : ∃ vs, haveAt l t u = vs := ⟨_, rfl⟩
  simp only [hvs] at hva ⊢
  obtain ⟨n, hn⟩ : ∃ n, bs.length = n := ⟨_, rfl⟩
  obtain ⟨k, hk⟩ : ∃ k, vs.length = k := ⟨_, rfl⟩
  simp only [hn] at hbk ⊢
  simp only [hk] at hva ⊢
  have HED := Lib.hid hed; have HBK := Lib.hid hbk; have HVA := Lib.hid hva
  clear hed hbk hva h hl hb hE hvs hn hk
  by_cases h0 : E = 0
  · subst h0
    cases back
    · go_enter Tryz.func44, Tryz.ntmps44
      go_wp2_with fail
      refine HED.out.mono ?_
      rintro e w1 ⟨rfl, hf1⟩
      go_wp2_with fail
      refine (HVA.out _ hf1).mono ?_
      rintro e w2 ⟨v, rfl, hr, hf2⟩
      obtain ⟨a, c, rfl⟩ := row_form hr
      go_wp2_with fail
      go_ret2
      exact ⟨rfl, hf1.then0 hf2⟩
    · go_enter Tryz.func44, Tryz.ntmps44
      go_wp2_with fail
      refine HED.out.mono ?_
      rintro e w1 ⟨rfl, hf1⟩
      go_wp2_with fail
      refine (HBK.out _ hf1).mono ?_
      rintro e w2 ⟨a, c, rfl, hr, hf2⟩
      go_wp2_with fail
      go_ret2
      exact ⟨rfl, hf1.then0 hf2⟩
  · have hE' : (E != 0) = true := by simpa using h0
    rw [if_neg h0]
    go_enter Tryz.func44, Tryz.ntmps44
    go_wp2_with fail
    refine HED.out.mono ?_
    rintro e w1 ⟨rfl, hf1⟩
    go_wp2_with fail
    go_ret2
    exact ⟨rfl, hf1⟩
end
section
variable (W : World) (p : Nat) (l : PL) (a : Option Addr) (bc off cap N : Nat) (h : XRead W p l a bc off cap) (hl : l.AtOk N) (hN : N ≤ 900000000) (hrs : RisesBy Cm.time l.commits) (t u : Int) (bs : List Int) (hb : BacksAre l t u bs) (back : Bool)
include h hl hN hrs hb
set_option maxRecDepth 100000 in
set_option maxHeartbeats 2000000 in
theorem r19Count_any : Calls Tryz.prog 45 #[.pointer (some ⟨p, 0, none⟩), .int .u64 t, .bool back, .int .u64 u] W fun e w' => e = .returned (.tuple #[.int .i64 (cntR l t u bs back), .int .i64 (edgedR false back (l.s.ty != 4) l.s.rev (decide (t < l.marked)))]) ∧ Fr N0 W w' := by
  have hbk := fun W' (hf : Fr N0 W W') => (xbacks_any W' p l a bc off cap N (h.fr hf) hl hN hrs (nodeV u) t).mono fun e w2 hh => hh.are hb.rises hb.mem
  have hva := fun W' (hf : Fr N0 W W') => xValues_any W' p l a bc off cap N (h.fr hf) hl hN hrs u t
  unfold cntR
  have hnd := fun W => r19Node_any W u
  simp only [nodeV, Val.enc] at hbk hnd
  obtain ⟨vs, hvs⟩ : ∃ vs, haveAt l t u = vs := ⟨_, rfl⟩
  simp only [hvs] at hva ⊢
  obtain ⟨n, hn⟩ : ∃ n, bs.length = n := ⟨_, rfl⟩
  obtain ⟨k, hk⟩ : ∃ k, vs.length = k := ⟨_, rfl⟩
  simp only [hn] at hbk ⊢
  simp only [VRow, hk] at hva
  simp only [hk]
  have c1 := h.ty; have c6 := h.rev; have c8 := h.marked
  obtain ⟨ty, hty⟩ : ∃ ty, l.s.ty = ty := ⟨_, rfl⟩
  obtain ⟨rv, hrv⟩ : ∃ rv, l.s.rev = rv := ⟨_, rfl⟩
  obtain ⟨mk, hmk⟩ : ∃ mk, l.marked = mk := ⟨_, rfl⟩
  rw [hty] at c1 ⊢
  rw [hrv] at c6 ⊢
  rw [hmk] at c8 ⊢
  have HND := Lib.hid hnd; have HBK := Lib.hid hbk; have HVA := Lib.hid hva
  clear hbk hva hnd h hl hb hvs hn hk hty hrv hmk hrs
  obtain ⟨E, hE⟩ : ∃ E, edgedR false back (ty != 4) rv (decide (t < mk)) = E := ⟨_, rfl⟩
  rw [hE]
  have HE := Lib.hid hE
  clear hE
  have lp := lt_of_cell c1
  by_cases hno : (back && (ty != 4 || !rv)) = true
  · obtain rfl : E = 191 := by
      rw [← HE.out]; revert hno; cases back <;> cases rv <;> cases (ty != 4) <;> simp [edgedR]
    rw [if_neg (by decide)]
    cases hty : (ty != 4) <;> cases back <;> cases rv
    any_goals (exfalso; simp [hty] at hno; done)
    all_goals
      go_enter Tryz.func45, Tryz.ntmps45
      go_wp2_with fail
      try go_ret2
      exact ⟨rfl, Fr.refl _ _⟩
  · by_cases hm : t < mk
    · obtain rfl : E = 181 := by
        rw [← HE.out]; revert hno; cases back <;> cases rv <;> cases (ty != 4) <;> simp [edgedR, hm]
      rw [if_neg (by decide)]
      cases hty : (ty != 4) <;> cases back <;> cases rv
      any_goals (exfalso; simp [hty] at hno; done)
      all_goals
        go_enter Tryz.func45, Tryz.ntmps45
        go_wp2_with fail
        try go_ret2
        exact ⟨rfl, Fr.refl _ _⟩
    · obtain rfl : E = 0 := by
        rw [← HE.out]; revert hno; cases back <;> cases rv <;> cases (ty != 4) <;> simp [edgedR, hm]
      rw [if_pos rfl]
      cases back
      · clear hno HBK HND HE
        rw [if_neg (by decide)]
        go_enter Tryz.func45, Tryz.ntmps45
        go_wp2_with fail
        refine (HVA.out _ (Fr.refl N0 W)).mono ?_
        rintro e w2 ⟨v, rfl, hr, hf2⟩
        obtain ⟨a, c, rfl⟩ := row_form hr
        go_wp2_with fail
        go_ret2
        exact ⟨rfl, hf2⟩
      · obtain ⟨hty, rfl⟩ : (ty != 4) = false ∧ rv = true := by
          revert hno; cases rv <;> cases (ty != 4) <;> simp
        rw [if_pos rfl]
        clear hno HE
        go_enter Tryz.func45, Tryz.ntmps45
        go_wp2_with fail
        refine (HND.out _).mono ?_
        rintro e w2 ⟨rfl, hf2⟩
        go_wp2_with fail
        refine (HBK.out _ hf2).mono ?_
        rintro e w3 ⟨a, c, rfl, hr, hf3⟩
        go_wp2_with fail
        go_ret2
        exact ⟨rfl, hf2.then0 hf3⟩
end
end Go.Proofs.YtefepfiijoafbaaGreat
namespace Go.Proofs.YtefepfiijoafbaaGreat
open Go.RowKit Go.Shelf Go.Maps Go.Sort
attribute [local go_sem] Oper.semAt_some
attribute [local irreducible] wpQuiet
set_option linter.unusedVariables false
set_option linter.unusedSimpArgs false

/-- Numbers and a code are told. -/
def NumsE (W : World) (xs : List Int) (E : Int) (e : Ending) (w' : World) : Prop := ∃ v b, e = .returned (.tuple #[v, .int .i64 E]) ∧ Ints .u64 w' b v xs ∧ Fr N0 W w'
theorem edges_ok {l : PL} {N : Nat} (hl : l.AtOk N) (t u : Int) : ∀ x ∈ (haveAt l t u).map (·.u), (Lit.int .u64 x).wf = true := fun x hx => by
  obtain ⟨y, hy, rfl⟩ := List.mem_map.1 hx
  exact (((haveAt_ok hl t).ok u).may y hy).2
theorem numsE_row {W w' : World} {xs : List Int} {v : Value} {base : Nat} {E : Int} (h : w'.ownsRow base 33 1 v xs.length (xs.map (Value.int .u64))) (hw : ∀ x ∈ xs, (Lit.int .u64 x).wf = true) (hf : Fr N0 W w') : NumsE W xs E (.returned (.tuple #[v, .int .i64 E])) w' := by
  obtain ⟨b, -, hI⟩ := ints_rowH h hw
  exact ⟨v, b, rfl, hI, hf⟩
section
variable (W : World) (R : Nat → Prop) (p : Nat) (l : PL) (N : Nat) (h : IsPL W R p l) (hl : l.AtOk N) (hN : N ≤ 8000000000) (t u : Int)
include h hl
set_option maxRecDepth 100000 in
set_option maxHeartbeats 2000000 in
theorem iedges_no (back : Bool) (E : Int) (hE : edgedR true back (l.s.ty != 4) l.s.rev (decide (t < l.marked)) = E) (h0 : E ≠ 0) :
    Calls Tryz.prog 35 #[.pointer (some ⟨p, 0, none⟩), .int .u64 t, .bool back, .int .u64 u] W (NumsE W [] E) := by
  have hed := edged_any W R p l h hl.pred t true back
  rw [hE] at hed
  have HED := Lib.hid hed
  have hE' : (E != 0) = true := by simpa using h0
  clear hed h hl hE
  go_enter Tryz.func35, Tryz.ntmps35
  go_wp2_with fail
  refine HED.out.mono ?_
  rintro e w1 ⟨rfl, hf1⟩
  go_wp2_with fail
  exact bodyPost_ret (v := .tuple #[.slice none 0 0, .int .i64 E]) (by simp [results, Tryz.results35, go_sem]) rfl ⟨_, 0, rfl, Ints.nil _ _ _, hf1⟩
include hN
theorem iEdges_any (hu : (Lit.int .u64 u).wf = true) (bs : List Int) (hb : BacksAre l t u bs) (back : Bool) :
    Calls Tryz.prog 35 #[.pointer (some ⟨p, 0, none⟩), .int .u64 t, .bool back, .int .u64 u] W (NumsE W (edgesR l t u bs back) (edgedR true back (l.s.ty != 4) l.s.rev (decide (t < l.marked)))) := by
  unfold edgesR
  by_cases h0 : edgedR true back (l.s.ty != 4) l.s.rev (decide (t < l.marked)) = 0
  · rw [if_pos h0, h0]
    cases back
    · refine (iedges_to W R p l N h hl hN t u hu h0).mono fun e w' hh => ?_
      obtain ⟨v, rfl, hr, hf⟩ := hh
      refine numsE_row (base := W.heap.size) ?_ (edges_ok hl t u) hf
      rw [if_neg (by decide), List.length_map, List.map_map]
      exact hr
    · refine (iedges_back W R p l N h hl hN t u h0).mono fun e w' hh => ?_
      obtain ⟨v, rfl, hh⟩ := hh
      obtain ⟨a, c, e, hr, hf⟩ := hh.are hb.rises hb.mem
      injection e with e
      subst e
      exact numsE_row hr (hb.wf hl) hf
  · rw [if_neg h0]
    exact iedges_no W R p l N h hl t u back _ rfl h0
end
section
variable (W : World) (p : Nat) (l : PL) (a : Option Addr) (bc off cap N : Nat) (h : XRead W p l a bc off cap) (hl : l.AtOk N) (hN : N ≤ 900000000) (hrs : RisesBy Cm.time l.commits) (t u : Int) (bs : List Int) (hb : BacksAre l t u bs) (back : Bool)
include h hl hN hrs hb
set_option maxRecDepth 100000 in
set_option maxHeartbeats 4000000 in
theorem r19Edges_any : Calls Tryz.prog 46 #[.pointer (some ⟨p, 0, none⟩), .int .u64 t, .bool back, .int .u64 u] W (NumsE W (edgesR l t u bs back) (edgedR true back (l.s.ty != 4) l.s.rev (decide (t < l.marked)))) := by
  obtain ⟨i0, hi, hz0, hz1, hz2⟩ := info_parts ins4_info
  have hbk := fun W' (hf : Fr N0 W W') => (xbacks_any W' p l a bc off cap N (h.fr hf) hl hN hrs (nodeV u) t).mono fun e w2 hh => hh.are hb.rises hb.mem
  have hva := fun W' (hf : Fr N0 W W') => xValues_any W' p l a bc off cap N (h.fr hf) hl hN hrs u t
  have hnd := fun W => r19Node_any W u
  have hwf := edges_ok hl t u
  have hwb := hb.wf hl
  have hvl : (haveAt l t u).length ≤ N := (haveAt_ok hl t).len u
  unfold edgesR
  simp only [nodeV, Val.enc] at hbk hnd
  obtain ⟨vs, hvs⟩ : ∃ vs, haveAt l t u = vs := ⟨_, rfl⟩
  rw [hvs] at hwf hvl
  simp only [hvs] at hva ⊢
  have c1 := h.ty; have c6 := h.rev; have c8 := h.marked
  obtain ⟨ty, hty⟩ : ∃ ty, l.s.ty = ty := ⟨_, rfl⟩
  obtain ⟨rv, hrv⟩ : ∃ rv, l.s.rev = rv := ⟨_, rfl⟩
  obtain ⟨mk, hmk⟩ : ∃ mk, l.marked = mk := ⟨_, rfl⟩
  rw [hty] at c1 ⊢
  rw [hrv] at c6 ⊢
  rw [hmk] at c8 ⊢
  obtain ⟨E, hE⟩ : ∃ E, edgedR true back (ty != 4) rv (decide (t < mk)) = E := ⟨_, rfl⟩
  rw [hE]
  have HE := Lib.hid hE; have HND := Lib.hid hnd; have HBK := Lib.hid hbk; have HVA := Lib.hid hva; have HWF := Lib.hid hwf; have HWB := Lib.hid hwb
  have lp := lt_of_cell c1
  clear hbk hva hnd h hl hb hvs hty hrv hmk hrs hE hwf hwb
  by_cases hno : (ty != 4 || (back && !rv)) = true
  · obtain rfl : E = 191 := by
      rw [← HE.out]; revert hno; cases back <;> cases rv <;> cases (ty != 4) <;> simp [edgedR]
    rw [if_neg (by decide)]
    cases hty : (ty != 4) <;> cases back <;> cases rv
    any_goals (simp [hty] at hno; done)
    all_goals
      go_enter Tryz.func46, Tryz.ntmps46
      go_wp2_with fail
      exact bodyPost_ret (v := .tuple #[.slice none 0 0, .int .i64 191]) (by simp [results, Tryz.results46, go_sem]) rfl ⟨_, 0, rfl, Ints.nil _ _ _, Fr.refl _ _⟩
  · by_cases hm : t < mk
    · obtain rfl : E = 181 := by
        rw [← HE.out]; revert hno; cases back <;> cases rv <;> cases (ty != 4) <;> simp [edgedR, hm]
      rw [if_neg (by decide)]
      cases hty : (ty != 4) <;> cases back <;> cases rv
      any_goals (exfalso; simp [hty] at hno; done)
      all_goals
        go_enter Tryz.func46, Tryz.ntmps46
        go_wp2_with fail
        exact bodyPost_ret (v := .tuple #[.slice none 0 0, .int .i64 181]) (by simp [results, Tryz.results46, go_sem]) rfl ⟨_, 0, rfl, Ints.nil _ _ _, Fr.refl _ _⟩
    · obtain rfl : E = 0 := by
        rw [← HE.out]; revert hno; cases back <;> cases rv <;> cases (ty != 4) <;> simp [edgedR, hm]
      have hty : (ty != 4) = false := by revert hno; cases (ty != 4) <;> simp
      rw [if_pos rfl]
      cases back
      · clear hno HBK HWB HND HE
        rw [if_neg (by decide)]
        obtain ⟨n, hn⟩ : ∃ n, vs.length = n := ⟨_, rfl⟩
        have HNN := Lib.hid hn
        rw [hn] at hvl
        clear hn
        go_enter Tryz.func46, Tryz.ntmps46
        go_wp2_with fail
        refine (HVA.out _ (Fr.refl N0 W)).mono ?_
        rintro e w2 ⟨v', rfl, hrow, hf2⟩
        obtain ⟨g, hg, hr2⟩ := rowsK_of_row (enc := Val.enc) (n := 5) (fun _ => rfl) (by decide) hrow
        obtain ⟨a, off, cap, rfl, r1, r2, r3, -, r5⟩ := hr2
        have HR5 := Lib.hid r5; have HF2 := Lib.hid hf2
        rw [HNN.out] at r1 r3
        simp only [HNN.out]
        clear r5 hf2 hrow
        have hzW := HF2.out.size
        go_wp2_with fail
        go_loopw [10, 12] (fun ov iv wr => ∃ k : Nat, k ≤ n ∧ iv = .int .i64 k ∧ Hid (wr.ownsRow w2.heap.size 33 1 ov k ((vs.take k).map fun x => .int .u64 x.u)) ∧ Hid (Fr N0 w2 wr)) (fun _ iv _ => n - (intOf iv).toNat)
        case atStart => exact ⟨0, Nat.zero_le _, by first | rfl | go_num, World.ownsRow_nil _ _ _ _, Fr.refl _ _⟩
        case round =>
          obtain ⟨k, hk, rfl, hrow, hfr⟩ := hrel
          obtain ⟨oa, oc, rfl⟩ := row_form hrow.out
          have hwz := hfr.out.size
          by_cases hlt : k < n
          · obtain rfl := r3 (by omega)
            have hkl : k < vs.length := by rw [HNN.out]; exact hlt
            have e5 := HR5.out k hkl 4 (by decide)
            have hts : (vs.take (k + 1)).map (fun x => Value.int .u64 x.u) = (vs.take k).map (fun x => Value.int .u64 x.u) ++ [.int .u64 vs[k].u] := by rw [List.take_succ_eq_append_getElem hkl, List.map_append]; rfl
            obtain ⟨y, hy⟩ : ∃ y, vs[k] = y := ⟨_, rfl⟩
            rw [hy] at e5 hts
            obtain ⟨yk, yb, yn, ys, yu⟩ := y
            have e4 : wr.cell? ⟨g, off + k * 5 + 4, none⟩ = some (.int .u64 yu) := hfr.out.cell id e5
            have hrow2 := hrow.out
            have hki : (k : Int) < (n : Int) := by omega
            have HTS := Lib.hid hts
            clear e5 hts hy hrow
            go_wp2_with (at_builtin; go_loud (refine wpList_append_lies _ rfl _ _ 35 rfl (w2.heap.size) 33 i0 (.int .u64 0) 1 8 Tryz.underlying35 hi hz0 hz1 hz2 rfl (by decide) (.slice oa k oc) (k) _ rfl (hrow2.alloc _) ⟨wr.heap.size, 0, none⟩ 1 1 [.int .u64 yu] rfl rfl (World.news_of_block (cs := #[.int .u64 yu]) (t := 33) (fr := (0, 0)) (heap_alloc_new wr _)) (by simp [Value.oneCell']) (by omega) (by unfold maxLen; omega) (by omega) (by simp; omega) (wr.heap.size + 1) (by simp) ?_); intro g1 cap1 w3 hown3 hgrow3 hfresh3 hlt3)
            go_roundw
            case rel =>
              have hfa : Fr (fun j => (Value.slice oa k oc).ownBlock = some j) _ w3 := (Fr.refl _ _).grown hgrow3 fun j e => .inl e
              exact ⟨k + 1, by omega, by go_num, by rw [HTS.out]; exact hown3, (hfr.out.alloc _).trans hfa fun j hj => .inr (by have := (ownsRow_lt hrow2 _ hj).1; omega)⟩
            case measure => simp [intOf]; omega
          · obtain rfl : k = n := by omega
            have hfull : vs.take k = vs := by rw [← HNN.out, List.take_length]
            have hrw := hrow.out
            rw [hfull] at hrw
            have HRW := Lib.hid hrw
            clear hrw hrow hfull
            have hki : ¬ (k : Int) < (k : Int) := by omega
            have hpost : NumsE W (vs.map (·.u)) 0 (.returned (.tuple #[.slice oa k oc, .int .i64 0])) wr := numsE_row (base := w2.heap.size) (by rw [List.length_map, HNN.out, List.map_map]; exact HRW.out) HWF.out (HF2.out.then0 hfr.out)
            go_wp2_with fail
            exact bodyPost_ret (v := .tuple #[.slice oa k oc, .int .i64 0]) (by simp [results, Tryz.results46, go_sem]) rfl hpost
      · obtain rfl : rv = true := by revert hno; cases rv <;> simp
        clear hno HE
        rw [if_pos rfl]
        go_enter Tryz.func46, Tryz.ntmps46
        go_wp2_with fail
        refine (HND.out _).mono ?_
        rintro e w2 ⟨rfl, hf2⟩
        go_wp2_with fail
        refine (HBK.out _ hf2).mono ?_
        rintro e w3 ⟨a, c, rfl, hr, hf3⟩
        have hpost := numsE_row (E := 0) hr HWB.out (hf2.then0 hf3)
        go_wp2_with fail
        exact bodyPost_ret (v := .tuple #[.slice a bs.length c, .int .i64 0]) (by simp [results, Tryz.results46, go_sem]) rfl hpost
end
end Go.Proofs.YtefepfiijoafbaaGreat
