/- A transaction in memory of its own; why a step may not be done. -/
import Derived.Test.YthidminepegnoaaGreatDoorQLoops
import Derived.Test.YthidminepegnoaaGreatDoorQRMay
namespace Go.Proofs.YthidminepegnoaaGreatDoor
open Go.RowKit Go.Shelf Go.Maps Go.Sort
attribute [local go_sem] Oper.semAt_some
attribute [local irreducible] wpQuiet
set_option linter.unusedVariables false
set_option linter.unusedSimpArgs false

theorem strs_of_row2 {w : World} {base : Nat} {v : Value} {xs : List ByteArray} (h : w.ownsRow base 9 1 v xs.length (xs.map Value.string)) : ∃ b, base ≤ b ∧ Strs w b v xs := by
  have h' := h
  rcases h.2 with ⟨hv, h0⟩ | ⟨g, cap, cur, hv, hgb, hgg, hnc, hcm, _⟩
  · have : xs = [] := List.eq_nil_of_length_eq_zero h0
    subst this; rw [hv]; exact ⟨base, Nat.le_refl _, Strs.nil _ _⟩
  · refine ⟨g, hgb, some ⟨g, 0, none⟩, 0, cap, hv, hnc, by unfold maxLen at hcm; omega, fun _ => rfl, by simp, fun k hk => ?_⟩
    rw [hv] at h'
    rw [Nat.zero_add, h'.cellAt k (by omega), List.getElem?_map, List.getElem?_eq_getElem hk]
    rfl
/-- slices.Clone at strings, at numbers, in this seat's own words. -/
theorem cloneS_any (w : World) (b : Nat) (v : Value) (xs : List ByteArray) (h : Strs w b v xs) (hl : xs.length ≤ 1000000) :
    Calls Tryz.prog 53 #[v] w fun e w' => ∃ v' bb, e = .returned v' ∧ Strs w' bb v' xs ∧ w.heap.size ≤ bb ∧ Fr N0 w w' := by
  obtain ⟨a, off, cap, rfl, h1, h2, h3, h4, h5⟩ := h
  cases a with
  | none =>
    have hc := h4 rfl
    subst hc
    obtain rfl : xs = [] := List.eq_nil_of_length_eq_zero (by omega)
    exact (Tryz.slices_Clone_string_nil 0 0 w).mono fun e w' h => ⟨_, w.heap.size, h.1, by rw [h.2]; exact Strs.nil _ _, Nat.le_refl _, by rw [h.2]; exact Fr.refl _ _⟩
  | some a =>
    by_cases h0 : 0 < xs.length
    · have := h3 h0
      simp only [Option.some.injEq] at this
      subst this
      refine (Tryz.slices_Clone_string b off xs.length cap xs w (Nat.le_refl _) (by omega) (fun j hj => by rw [h5 j hj, List.getD_eq_getElem?_getD, List.getElem?_eq_getElem hj]; rfl)).mono ?_
      rintro e w' ⟨v', rfl, hr, _, hb⟩
      rw [List.take_length] at hr
      obtain ⟨bb, hbb, hs⟩ := strs_of_row2 hr
      exact ⟨_, bb, rfl, hs, hbb, fr0_below hb⟩
    · obtain rfl : xs = [] := List.eq_nil_of_length_eq_zero (by omega)
      refine (Tryz.slices_Clone_string_zero a cap w).mono ?_
      rintro e w' ⟨v', rfl, hr, _, hb⟩
      obtain ⟨bb, hbb, hs⟩ := strs_of_row2 (xs := []) hr
      exact ⟨_, bb, rfl, hs, hbb, fr0_below hb⟩
theorem ints_news3 {w : World} {b : Nat} {a : Addr} {n cap : Nat} {xs : List Int} (h : Ints .u32 w b (.slice (some a) n cap) xs) : ∀ j u, (xs.map (Value.int .u32))[j]? = some u → w.cell? (a.add j) = some u := by
  intro j u hu
  obtain ⟨a', off, cap', hv, h1, h2, h3, h4, h5, h6⟩ := h
  simp only [Value.slice.injEq] at hv
  obtain ⟨rfl, rfl, rfl⟩ := hv
  have hj : j < xs.length := by
    rcases Nat.lt_or_ge j xs.length with hlt | hge
    · exact hlt
    · rw [List.getElem?_eq_none (by simpa using hge)] at hu; cases hu
  have := h3 (by omega)
  simp only [Option.some.injEq] at this
  subst this
  have hadd : (⟨b, off, none⟩ : Addr).add j = ⟨b, off + j, none⟩ := by unfold Addr.add; split <;> simp_all
  rw [hadd, h5 j hj]
  simpa [hj] using hu

set_option maxRecDepth 100000 in
set_option maxHeartbeats 1000000 in
theorem clone3_any (w : World) (b : Nat) (v : Value) (xs : List Int) (h : Ints .u32 w b v xs) (hl : xs.length ≤ 17592186044416) :
    Calls Tryz.prog 72 #[v] w fun e w' => ∃ v', e = .returned v' ∧ w'.ownsRow w.heap.size 41 1 v' xs.length (xs.map (Value.int .u32)) ∧ Fr N0 w w' := by
  obtain ⟨i0, hi, hz0, hz1, hz2⟩ := info_parts infoU32
  have h' := h
  have hq := fun (w : World) a n c => Lib.run_eql_slice_nil (P := Tryz.prog) w 30 41 a n c 0 0 Tryz.underlying30
  obtain ⟨a, off, cap, rfl, h1, h2, h3, h4, h5, h6⟩ := h
  cases a with
  | none =>
    have hc := h4 rfl
    subst hc
    obtain rfl : xs = [] := List.eq_nil_of_length_eq_zero (by omega)
    go_enter Tryz.func72, Tryz.ntmps72
    go_wp2
    go_ret
    exact ⟨_, rfl, World.ownsRow_nil _ _ _ _, Fr.refl _ _⟩
  | some a =>
    have hnews := ints_news3 h'
    clear h' h3 h4 h5 h6
    have hnews' : ∀ (j : Nat) (u : Value), (xs.map (Value.int .u32))[j]? = some u → (w.alloc (.cells #[] 41)).cell? (a.add j) = some u := fun j u hu =>
      ((Fr.refl N0 w).alloc _).cell (fun h => h) (hnews j u hu)
    have hown := World.ownsRow_lit (base := w.heap.size) (e := 41) (size := 1) w #[] 0 (Nat.le_refl _) (by simp [maxLen]) rfl
    have HN := Lib.hid hnews'; have HO := Lib.hid hown
    clear hnews hnews' hown
    go_enter Tryz.func72, Tryz.ntmps72
    go_wp2_with (at_builtin; go_loud (refine wpList_append_own _ rfl _ _ 30 rfl w.heap.size 41 i0 (.int .u32 0) 1 4 Tryz.underlying30 hi hz0 hz1 hz2 rfl (by decide) _ _ _ rfl HO.out a xs.length cap (xs.map (Value.int .u32)) rfl (by simp) HN.out (by simp [Value.oneCell']) (by unfold maxLen; omega) (by omega) (by simp) ?_); intro v' w1 hown' hgrow _)
    go_ret
    refine ⟨v', rfl, by simpa using hown', ((Fr.refl _ _).alloc _).grown hgrow (fun k e => .inr ?_)⟩
    have e' : some w.heap.size = some k := e
    cases e'; exact Nat.le_refl _

theorem own_form {w : World} {base : Nat} {e : TypeId} {size : Nat} {v : Value} {n : Nat} {xs : List Value} (h : w.ownsRow base e size v n xs) : ∃ a c, v = .slice a n c := by
  rcases h.2 with ⟨hv, h0⟩ | ⟨g, cap, cur, hv, _⟩
  · exact ⟨none, 0, by rw [hv, h0]⟩
  · exact ⟨_, cap, hv⟩
theorem strs_form {w : World} {b : Nat} {v : Value} {xs : List ByteArray} (h : Strs w b v xs) : ∃ a c, v = .slice a xs.length c := by
  obtain ⟨a, _, c, e, _⟩ := h; exact ⟨a, c, e⟩
theorem RowsK.on {α : Type} {enc : α → List Value} {n : Nat} (hn : ∀ x, (enc x).length = n) {T : Nat → Prop} {w w' : World} {b : Nat} {v : Value} {xs : List α} (h : RowsK enc n w b v xs) (hf : Fr T w w') (hb : ¬ T b) : RowsK enc n w' b v xs := by
  obtain ⟨a, off, cap, h1, h2, h3, h4, h5, h6⟩ := h
  refine ⟨a, off, cap, h1, h2, h3, h4, h5, fun i hi c hc => ?_⟩
  have hc' : c < (enc xs[i]).length := by rw [hn]; exact hc
  have := h6 i hi c hc
  rw [List.getElem?_eq_getElem hc'] at this ⊢
  exact hf.cell (p := ⟨b, off + i * n + c, none⟩) hb this
/-- A box that lies in a world, whole: its cells, and that none is frozen. -/
theorem box_cells {W : World} {B : Nat} {cs : Array Value} {t : TypeId} (h : W.heap[B]? = some (.cells cs t (0, 0))) : (∀ i, W.cell? ⟨B, i, none⟩ = cs[i]?) ∧ (∀ i, W.frozen? ⟨B, i, none⟩ = false) ∧ B < W.heap.size := by
  refine ⟨fun i => ?_, fun i => by simp [World.frozen?, h], lt_of_block h⟩
  show (match W.heap[B]? with
    | some (.cells c _ _) => if (none : Option _).isSome then none else c[i]?
    | _ => none) = _
  rw [h]; rfl
/-- Every cell of a box set anew. -/
theorem box_set {W : World} {B i : Nat} {cs : Array Value} {t : TypeId} {v : Value} (h : W.heap[B]? = some (.cells cs t (0, 0))) : (W.setCell ⟨B, i, none⟩ v).heap[B]? = some (.cells (cs.setIfInBounds i v) t (0, 0)) := by
  have := h
  simp [World.setCell, Array.getElem?_modify, h]

/-- The transaction's box behind the first three lists' cloning. -/
def OwnMid (w W : World) (ph st cm : Int) (vg vl : Value) (fl : Bool) (ws : List Wr) (ks : List ByteArray) (ns : List Rt) : Prop :=
  ∃ aw cw ak ck an cn, W.heap[w.heap.size]? = some (.cells #[.int .u8 ph, .int .u64 st, .int .u64 cm, .slice aw ws.length cw, .slice ak ks.length ck, .slice an ns.length cn, vg, vl, .bool fl] 32 (0, 0)) ∧
    (∃ b, w.heap.size + 2 ≤ b ∧ Wrs W b (.slice aw ws.length cw) ws) ∧ (∃ b, w.heap.size + 2 ≤ b ∧ Strs W b (.slice ak ks.length ck) ks) ∧ (∃ b, w.heap.size + 2 ≤ b ∧ Rts W b (.slice an ns.length cn) ns) ∧ (ns = [] → Value.slice an ns.length cn = .slice none 0 0) ∧ W.heap[w.heap.size + 1]? = some (.cells #[.int .u8 0, .int .u64 0, .int .u64 0, .slice none 0 0, .slice none 0 0, .slice none 0 0, .slice none 0 0, .slice none 0 0, .bool false] 32 (0, 0)) ∧ Fr N0 w W
theorem own_mid_mk {w w3 : World} {ph st cm : Int} {vw vk vn vg vl : Value} {fl : Bool} {ws : List Wr} {ks : List ByteArray} {ns : List Rt} {aw ak an : Option Addr} {cw ck cn b0 b1 b2 : Nat}
    (hb : w3.heap[w.heap.size]? = some (.cells #[.int .u8 ph, .int .u64 st, .int .u64 cm, vw, vk, vn, vg, vl, .bool fl] 32 (0, 0))) (hF : Fr N0 w w3)
    (hw : w3.ownsRow b0 65 8 (.slice aw ws.length cw) ws.length (ws.flatMap Wr.enc)) (hk : Strs w3 b1 (.slice ak ks.length ck) ks) (hn : w3.ownsRow b2 92 3 (.slice an ns.length cn) ns.length (ns.flatMap Rt.enc)) (h0 : ns = [] → Value.slice an ns.length cn = .slice none 0 0) (hle : w.heap.size + 2 ≤ b0 ∧ w.heap.size + 2 ≤ b2) (hk1 : w.heap.size + 2 ≤ b1) (hz : w3.heap[w.heap.size + 1]? = some (.cells #[.int .u8 0, .int .u64 0, .int .u64 0, .slice none 0 0, .slice none 0 0, .slice none 0 0, .slice none 0 0, .slice none 0 0, .bool false] 32 (0, 0))) :
    OwnMid w (((w3.setCell ⟨w.heap.size, 3, none⟩ (.slice aw ws.length cw)).setCell ⟨w.heap.size, 4, none⟩ (.slice ak ks.length ck)).setCell ⟨w.heap.size, 5, none⟩ (.slice an ns.length cn)) ph st cm vg vl fl ws ks ns := by
  have hf : Fr (fun k => k = w.heap.size) w3 (((w3.setCell ⟨w.heap.size, 3, none⟩ (.slice aw ws.length cw)).setCell ⟨w.heap.size, 4, none⟩ (.slice ak ks.length ck)).setCell ⟨w.heap.size, 5, none⟩ (.slice an ns.length cn)) :=
    (((Fr.refl (fun k => k = w.heap.size) w3).setCell (p := ⟨w.heap.size, 3, none⟩) (.inl rfl) (.slice aw ws.length cw)).setCell (p := ⟨w.heap.size, 4, none⟩) (.inl rfl) (.slice ak ks.length ck)).setCell (p := ⟨w.heap.size, 5, none⟩) (.inl rfl) (.slice an ns.length cn)
  have hb' := box_set (i := 5) (v := .slice an ns.length cn) (box_set (i := 4) (v := .slice ak ks.length ck) (box_set (i := 3) (v := .slice aw ws.length cw) hb))
  obtain ⟨bw, hbw, hW⟩ := rowsK_of_row (enc := Wr.enc) (n := 8) (fun _ => rfl) (by decide) hw
  obtain ⟨bn, hbn, hN⟩ := rowsK_of_row (enc := Rt.enc) (n := 3) (fun _ => rfl) (by decide) hn
  refine ⟨aw, cw, ak, ck, an, cn, hb', ⟨bw, by omega, ?_⟩, ⟨b1, hk1, ?_⟩, ⟨bn, by omega, ?_⟩, h0, (hf.at (by simp) (lt_of_block hz)).trans hz, ?_⟩
  · exact RowsK.on (enc := Wr.enc) (n := 8) (fun _ => rfl) hW hf (by omega)
  · obtain ⟨a, off, cap, e, g1, g2, g3, g4, g5⟩ := hk
    exact ⟨a, off, cap, e, g1, g2, g3, g4, fun i hi => hf.cell (p := ⟨b1, off + i, none⟩) (by show ¬ b1 = w.heap.size; omega) (g5 i hi)⟩
  · exact RowsK.on (enc := Rt.enc) (n := 3) (fun _ => rfl) hN hf (by omega)
  · exact hF.trans hf (fun k hk => .inr (by omega))

/-- A transaction stored whole into a box. -/
theorem txn_box_set {W : World} {B : Nat} {z0 z1 z2 z3 z4 z5 z6 z7 z8 v0 v1 v2 v3 v4 v5 v6 v7 v8 : Value} {t : TypeId} (h : W.heap[B]? = some (.cells #[z0, z1, z2, z3, z4, z5, z6, z7, z8] t (0, 0))) :
    (((((((((W.setCell ⟨B, 0, none⟩ v0).setCell ⟨B, 1, none⟩ v1).setCell ⟨B, 2, none⟩ v2).setCell ⟨B, 3, none⟩ v3).setCell ⟨B, 4, none⟩ v4).setCell ⟨B, 5, none⟩ v5).setCell ⟨B, 6, none⟩ v6).setCell ⟨B, 7, none⟩ v7).setCell ⟨B, 8, none⟩ v8).heap[B]? = some (.cells #[v0, v1, v2, v3, v4, v5, v6, v7, v8] t (0, 0)) := by
  have h0 := box_set (i := 0) (v := v0) h
  have h1 := box_set (i := 1) (v := v1) h0
  have h2 := box_set (i := 2) (v := v2) h1
  have h3 := box_set (i := 3) (v := v3) h2
  have h4 := box_set (i := 4) (v := v4) h3
  have h5 := box_set (i := 5) (v := v5) h4
  have h6 := box_set (i := 6) (v := v6) h5
  have h7 := box_set (i := 7) (v := v7) h6
  have h8 := box_set (i := 8) (v := v8) h7
  simp only [List.setIfInBounds_toArray, List.set_cons_zero, List.set_cons_succ] at h8
  exact h8
theorem txn_box_fr {T : Nat → Prop} {A W : World} {B : Nat} {v0 v1 v2 v3 v4 v5 v6 v7 v8 : Value} (hf : Fr T A W) (hB : T B ∨ A.heap.size ≤ B) :
    Fr T A (((((((((W.setCell ⟨B, 0, none⟩ v0).setCell ⟨B, 1, none⟩ v1).setCell ⟨B, 2, none⟩ v2).setCell ⟨B, 3, none⟩ v3).setCell ⟨B, 4, none⟩ v4).setCell ⟨B, 5, none⟩ v5).setCell ⟨B, 6, none⟩ v6).setCell ⟨B, 7, none⟩ v7).setCell ⟨B, 8, none⟩ v8) :=
  ((((((((hf.setCell (p := ⟨B, 0, none⟩) hB v0).setCell (p := ⟨B, 1, none⟩) hB v1).setCell (p := ⟨B, 2, none⟩) hB v2).setCell (p := ⟨B, 3, none⟩) hB v3).setCell (p := ⟨B, 4, none⟩) hB v4).setCell (p := ⟨B, 5, none⟩) hB v5).setCell (p := ⟨B, 6, none⟩) hB v6).setCell (p := ⟨B, 7, none⟩) hB v7).setCell (p := ⟨B, 8, none⟩) hB v8
theorem sizeTxn : (Tryz.prog.info? 32).map (·.size) = some 9 := by kernel_rfl
/-- The lists lie in blocks from N on. -/
def Apart (N : Nat) (w : World) (vw vk vn vg vl : Value) (t : Txn) : Prop :=
  (∃ b, N ≤ b ∧ Wrs w b vw t.writes) ∧ (∃ b, N ≤ b ∧ Strs w b vk t.keys) ∧ (∃ b, N ≤ b ∧ Rts w b vn t.needs) ∧ (∃ b, N ≤ b ∧ Ints .u32 w b vg t.groups) ∧ (∃ b, N ≤ b ∧ Ints .u32 w b vl t.left) ∧ (t.needs = [] → vn = .slice none 0 0)
theorem strs_on {T : Nat → Prop} {w w' : World} {b : Nat} {v : Value} {xs : List ByteArray} (h : Strs w b v xs) (hf : Fr T w w') (hb : ¬ T b) : Strs w' b v xs := by
  obtain ⟨a, off, cap, e, g1, g2, g3, g4, g5⟩ := h
  exact ⟨a, off, cap, e, g1, g2, g3, g4, fun i hi => hf.cell (p := ⟨b, off + i, none⟩) hb (g5 i hi)⟩
theorem Apart.on {N B : Nat} {w w' : World} {vw vk vn vg vl : Value} {t : Txn} (h : Apart N w vw vk vn vg vl t) (hB : B < N) (hf : Fr (fun k => k = B) w w') : TxnIn w' vw vk vn vg vl t := by
  obtain ⟨⟨b1, h1, i1⟩, ⟨b2, h2, i2⟩, ⟨b3, h3, i3⟩, ⟨b4, h4, i4⟩, ⟨b5, h5, i5⟩, h6⟩ := h
  exact ⟨⟨b1, RowsK.on (enc := Wr.enc) (n := 8) (fun _ => rfl) i1 hf (by show ¬ b1 = B; omega)⟩, ⟨b2, strs_on i2 hf (by show ¬ b2 = B; omega)⟩, ⟨b3, RowsK.on (enc := Rt.enc) (n := 3) (fun _ => rfl) i3 hf (by show ¬ b3 = B; omega)⟩, ⟨b4, i4.fr hf (by show ¬ b4 = B; omega)⟩, ⟨b5, i5.fr hf (by show ¬ b5 = B; omega)⟩, h6⟩
theorem _root_.Go.World.ownsRow.frT {T : Nat → Prop} {w w' : World} {base : Nat} {e : TypeId} {size : Nat} {v : Value} {n : Nat} {xs : List Value} (h : w.ownsRow base e size v n xs) (hf : Fr T w w') (hne : ∀ k, v.ownBlock = some k → ¬ T k) : w'.ownsRow base e size v n xs := by
  refine ⟨h.1, ?_⟩
  rcases h.2 with hn | ⟨g, cap, cur, rfl, hb, hgg, rest⟩
  · exact .inl hn
  · exact .inr ⟨g, cap, cur, rfl, hb, (hf.at (hne g rfl) (lt_of_block hgg)).trans hgg, rest⟩
/-- What is left has a row of its own: the other lists bear a change of it. -/
def LeftFree (w W : World) (vw vk vn vg vl : Value) (t : Txn) : Prop :=
  ∃ (W4 : World) (N : Nat), ((∃ b, N ≤ b ∧ Wrs W4 b vw t.writes) ∧ (∃ b, N ≤ b ∧ Strs W4 b vk t.keys) ∧ (∃ b, N ≤ b ∧ Rts W4 b vn t.needs) ∧ ∃ b, N ≤ b ∧ Ints .u32 W4 b vg t.groups) ∧
    Fr (fun k => k < N) W4 W ∧ w.heap.size ≤ W4.heap.size ∧ N ≤ W4.heap.size ∧ W.ownsRow W4.heap.size 41 1 vl t.left.length (t.left.map (Value.int .u32))
theorem LeftFree.own {w W : World} {vw vk vn vg vl : Value} {t : Txn} (h : LeftFree w W vw vk vn vg vl t) : W.ownsRow w.heap.size 41 1 vl t.left.length (t.left.map (Value.int .u32)) := by
  obtain ⟨W4, N, -, -, h1, -, h2⟩ := h
  refine ⟨h2.1, ?_⟩
  rcases h2.2 with hn | ⟨g, cap, cur, rfl, hb, rest⟩
  · exact .inl hn
  · exact .inr ⟨g, cap, cur, rfl, by omega, rest⟩
/-- .. the lists behind a change of that row. -/
theorem LeftFree.lists {w W W' : World} {vw vk vn vg vl : Value} {t : Txn} (h : LeftFree w W vw vk vn vg vl t) (hf : Fr (fun k => vl.ownBlock = some k) W W') :
    (∃ b, Wrs W' b vw t.writes) ∧ (∃ b, Strs W' b vk t.keys) ∧ (∃ b, Rts W' b vn t.needs) ∧ ∃ b, Ints .u32 W' b vg t.groups := by
  obtain ⟨W4, N, ⟨⟨b1, h1, i1⟩, ⟨b2, h2, i2⟩, ⟨b3, h3, i3⟩, ⟨b4, h4, i4⟩⟩, hF, -, hN, hrow⟩ := h
  have hT : Fr (fun k => k < N) W4 W' := hF.trans hf fun k hk => .inr (hrow.lt k hk).1
  exact ⟨⟨b1, RowsK.on (enc := Wr.enc) (n := 8) (fun _ => rfl) i1 hT (by omega)⟩, ⟨b2, strs_on i2 hT (by omega)⟩, ⟨b3, RowsK.on (enc := Rt.enc) (n := 3) (fun _ => rfl) i3 hT (by omega)⟩, ⟨b4, i4.fr hT (by omega)⟩⟩
theorem LeftFree.fr0 {w W W' : World} {vw vk vn vg vl : Value} {t : Txn} (h : LeftFree w W vw vk vn vg vl t) (hf : Fr N0 W W') : LeftFree w W' vw vk vn vg vl t := by
  obtain ⟨W4, N, hl, hF, h1, hN, hrow⟩ := h
  exact ⟨W4, N, hl, hF.then0 hf, h1, hN, hrow.fr0 hf⟩
/-- .. and behind the last two's. -/
def OwnEnd (w W : World) (t : Txn) : Prop :=
  ∃ aw cw ak ck an cn ag cg al cl, W.heap[w.heap.size]? = some (.cells #[.int .u8 t.phase, .int .u64 t.start, .int .u64 t.commit, .slice aw t.writes.length cw, .slice ak t.keys.length ck, .slice an t.needs.length cn, .slice ag t.groups.length cg, .slice al t.left.length cl, .bool t.failed] 32 (0, 0)) ∧
    Apart (w.heap.size + 2) W (.slice aw t.writes.length cw) (.slice ak t.keys.length ck) (.slice an t.needs.length cn) (.slice ag t.groups.length cg) (.slice al t.left.length cl) t ∧ W.heap[w.heap.size + 1]? = some (.cells #[.int .u8 0, .int .u64 0, .int .u64 0, .slice none 0 0, .slice none 0 0, .slice none 0 0, .slice none 0 0, .slice none 0 0, .bool false] 32 (0, 0)) ∧ Fr N0 w W ∧
    ∀ W', Fr (fun k => k = w.heap.size + 1) W W' → LeftFree w W' (.slice aw t.writes.length cw) (.slice ak t.keys.length ck) (.slice an t.needs.length cn) (.slice ag t.groups.length cg) (.slice al t.left.length cl) t
theorem own_end_mk {w w4 w5 : World} {t : Txn} {vg vl : Value} {aw ak an ag al : Option Addr} {cw ck cn cg cl b0 : Nat}
    (hb : w5.heap[w.heap.size]? = some (.cells #[.int .u8 t.phase, .int .u64 t.start, .int .u64 t.commit, .slice aw t.writes.length cw, .slice ak t.keys.length ck, .slice an t.needs.length cn, vg, vl, .bool t.failed] 32 (0, 0))) (hF : Fr N0 w w5) (hf5 : Fr N0 w4 w5)
    (hw : ∃ b, w.heap.size + 2 ≤ b ∧ Wrs w4 b (.slice aw t.writes.length cw) t.writes) (hk : ∃ b, w.heap.size + 2 ≤ b ∧ Strs w4 b (.slice ak t.keys.length ck) t.keys) (hn : ∃ b, w.heap.size + 2 ≤ b ∧ Rts w4 b (.slice an t.needs.length cn) t.needs) (h0 : t.needs = [] → Value.slice an t.needs.length cn = .slice none 0 0)
    (hg : w4.ownsRow b0 41 1 (.slice ag t.groups.length cg) t.groups.length (t.groups.map (Value.int .u32))) (hl : w5.ownsRow w4.heap.size 41 1 (.slice al t.left.length cl) t.left.length (t.left.map (Value.int .u32))) (hgw : ∀ x ∈ t.groups, (Lit.int .u32 x).wf = true) (hlw : ∀ x ∈ t.left, (Lit.int .u32 x).wf = true) (hle : w.heap.size + 2 ≤ b0 ∧ w.heap.size + 2 ≤ w4.heap.size)
    (hz : w5.heap[w.heap.size + 1]? = some (.cells #[.int .u8 0, .int .u64 0, .int .u64 0, .slice none 0 0, .slice none 0 0, .slice none 0 0, .slice none 0 0, .slice none 0 0, .bool false] 32 (0, 0))) :
    OwnEnd w ((w5.setCell ⟨w.heap.size, 6, none⟩ (.slice ag t.groups.length cg)).setCell ⟨w.heap.size, 7, none⟩ (.slice al t.left.length cl)) t := by
  have hf : Fr (fun k => k = w.heap.size) w5 ((w5.setCell ⟨w.heap.size, 6, none⟩ (.slice ag t.groups.length cg)).setCell ⟨w.heap.size, 7, none⟩ (.slice al t.left.length cl)) :=
    ((Fr.refl (fun k => k = w.heap.size) w5).setCell (p := ⟨w.heap.size, 6, none⟩) (.inl rfl) (.slice ag t.groups.length cg)).setCell (p := ⟨w.heap.size, 7, none⟩) (.inl rfl) (.slice al t.left.length cl)
  have hb' := box_set (i := 7) (v := .slice al t.left.length cl) (box_set (i := 6) (v := .slice ag t.groups.length cg) hb)
  obtain ⟨bg, hbg, hG⟩ := ints_of_own hg hgw
  obtain ⟨bl, hbl, hL⟩ := ints_of_own hl hlw
  obtain ⟨bw, hw1, hW⟩ := hw
  obtain ⟨bk, hk1, hK⟩ := hk
  obtain ⟨bn, hn1, hN⟩ := hn
  refine ⟨aw, cw, ak, ck, an, cn, ag, cg, al, cl, hb', ⟨⟨bw, hw1, RowsK.on (enc := Wr.enc) (n := 8) (fun _ => rfl) (RowsK.fr0 (enc := Wr.enc) (n := 8) (fun _ => rfl) hW hf5) hf (by show ¬ bw = w.heap.size; omega)⟩, ⟨bk, hk1, strs_on (hK.fr0 hf5) hf (by show ¬ bk = w.heap.size; omega)⟩, ⟨bn, hn1, RowsK.on (enc := Rt.enc) (n := 3) (fun _ => rfl) (RowsK.fr0 (enc := Rt.enc) (n := 3) (fun _ => rfl) hN hf5) hf (by show ¬ bn = w.heap.size; omega)⟩,
    ⟨bg, by omega, (hG.fr0 hf5).fr hf (by show ¬ bg = w.heap.size; omega)⟩, ⟨bl, by omega, hL.fr hf (by show ¬ bl = w.heap.size; omega)⟩, h0⟩, (hf.at (by simp) (lt_of_block hz)).trans hz, hF.trans hf (fun k hk => .inr (by omega)), fun W' hW' => ⟨w4, w.heap.size + 2, ⟨⟨bw, hw1, hW⟩, ⟨bk, hk1, hK⟩, ⟨bn, hn1, hN⟩, ⟨bg, by omega, hG⟩⟩, ?_, by omega, by omega, ?_⟩⟩
  · have h1 : Fr (fun k => k < w.heap.size + 2) w4 ((w5.setCell ⟨w.heap.size, 6, none⟩ (.slice ag t.groups.length cg)).setCell ⟨w.heap.size, 7, none⟩ (.slice al t.left.length cl)) := (hf5.mono (T' := fun k => k < w.heap.size + 2) fun k h => h.elim).trans hf fun k hk => .inl (by show k < w.heap.size + 2; have : k = w.heap.size := hk; omega)
    exact h1.trans hW' fun k hk => .inl (by show k < w.heap.size + 2; have : k = w.heap.size + 1 := hk; omega)
  · have h1 := hl.frT hf fun k hk e => by have := (hl.lt k hk).1; have : k = w.heap.size := e; omega
    exact h1.frT hW' fun k hk e => by have := (h1.lt k hk).1; have : k = w.heap.size + 1 := e; omega

set_option maxRecDepth 100000 in
set_option maxHeartbeats 4000000 in
theorem xown2_any (w : World) (v : Value) (t : Txn) (h : IsTxn w v t) (hv : Inv t) : Calls Tryz.prog 65 #[v] w fun e w' => ∃ vw vk vn vg vl, e = .returned (.agg #[.int .u8 t.phase, .int .u64 t.start, .int .u64 t.commit, vw, vk, vn, vg, vl, .bool t.failed]) ∧ TxnIn w' vw vk vn vg vl t ∧ LeftFree w w' vw vk vn vg vl t ∧ Fr N0 w w' := by
  have hgf := hv.groups_few
  have hlf := hv.fewLeft
  have hkf := hv.fewKeys
  have hwf := hv.few
  have hnf : t.needs.length ≤ 256 := by
    by_cases hp : t.phase = 3 ∨ t.phase = 4 ∨ t.phase = 5
    · exact (hv.moving hp).few
    · rw [(hv.still (by omega) (by omega) (by omega)).1]; simp
  obtain ⟨vw, vk, vn, vg, vl, rfl, h⟩ := h
  obtain ⟨bw, hw⟩ := h.ws
  obtain ⟨bk, hk⟩ := h.ks
  obtain ⟨bn, hn⟩ := h.ns
  obtain ⟨bg, hg⟩ := h.gs
  obtain ⟨bl, hl⟩ := h.ls
  have hn0 := h.n0
  have cw := fun W (hf : Fr N0 w W) => cloneW_any W bw vw t.writes (hw.fr0 hf) (by omega)
  have ck := fun W (hf : Fr N0 w W) => cloneS_any W bk vk t.keys (hk.fr0 hf) (by omega)
  have cn := fun W (hf : Fr N0 w W) => cloneR_any W bn vn t.needs (hn.fr0 hf) (by omega)
  have cg := fun W (hf : Fr N0 w W) => clone3_any W bg vg t.groups (hg.fr0 hf) (by omega)
  have cl := fun W (hf : Fr N0 w W) => clone3_any W bl vl t.left (hl.fr0 hf) (by omega)
  have hgw := hg.wf
  have hlw := hl.wf
  obtain ⟨ph, st, cm, ws, ks, ns, gs, ls, fl⟩ := t
  simp only at cw ck cn cg cl hgw hlw hn0 ⊢
  have CW := Lib.hid cw; have CK := Lib.hid ck; have CN := Lib.hid cn; have CG := Lib.hid cg; have CL := Lib.hid cl; have HG := Lib.hid hgw; have HL := Lib.hid hlw; have HN0 := Lib.hid hn0
  clear cw ck cn cg cl hgw hlw h hv hw hk hn hg hl hgf hlf hkf hwf hnf hn0
  go_enter Tryz.func65, Tryz.ntmps65
  go_wp2
  have hb : ((w.alloc (.cells #[.int .u8 ph, .int .u64 st, .int .u64 cm, vw, vk, vn, vg, vl, .bool fl] 32)).alloc (.cells #[.int .u8 0, .int .u64 0, .int .u64 0, .slice none 0 0, .slice none 0 0, .slice none 0 0, .slice none 0 0, .slice none 0 0, .bool false] 32)).heap[w.heap.size]? = some (.cells #[.int .u8 ph, .int .u64 st, .int .u64 cm, vw, vk, vn, vg, vl, .bool fl] 32 (0, 0)) := (Below.heap_alloc _ _ _ (by simp)).trans (World.alloc_heap_new _ _)
  have hbz := World.alloc_heap_new (w.alloc (.cells #[.int .u8 ph, .int .u64 st, .int .u64 cm, vw, vk, vn, vg, vl, .bool fl] 32)) (.cells #[.int .u8 0, .int .u64 0, .int .u64 0, .slice none 0 0, .slice none 0 0, .slice none 0 0, .slice none 0 0, .slice none 0 0, .bool false] 32)
  rw [World.size_alloc] at hbz
  have hf0 : Fr N0 w ((w.alloc (.cells #[.int .u8 ph, .int .u64 st, .int .u64 cm, vw, vk, vn, vg, vl, .bool fl] 32)).alloc (.cells #[.int .u8 0, .int .u64 0, .int .u64 0, .slice none 0 0, .slice none 0 0, .slice none 0 0, .slice none 0 0, .slice none 0 0, .bool false] 32)) := ((Fr.refl _ _).alloc _).alloc _
  obtain ⟨W0, hW0⟩ : ∃ W, ((w.alloc (.cells #[.int .u8 ph, .int .u64 st, .int .u64 cm, vw, vk, vn, vg, vl, .bool fl] 32)).alloc (.cells #[.int .u8 0, .int .u64 0, .int .u64 0, .slice none 0 0, .slice none 0 0, .slice none 0 0, .slice none 0 0, .slice none 0 0, .bool false] 32)) = W := ⟨_, rfl⟩
  rw [hW0] at hb hf0 hbz ⊢
  have HBZ := Lib.hid hbz
  clear hW0 hbz
  have hbl := lt_of_block hb
  obtain ⟨m0, n0, -⟩ := box_cells hb
  have HB := Lib.hid hb
  clear hb
  refine Code.wp_mono (Q := Exit.then (fun a' W => ∃ u3 u4 u5 u6 u7 u8 u9 u10 u11 u12 u13 u14 , a' = { tmps := #[.agg #[.int .u8 ph, .int .u64 st, .int .u64 cm, vw, vk, vn, vg, vl, .bool fl], .pointer (some ⟨w.heap.size, 0, none⟩), .pointer (some ⟨w.heap.size + 1, 0, none⟩), u3, u4, u5, u6, u7, u8, u9, u10, u11, u12, u13, u14, undef, undef, undef, undef, undef, undef, undef, undef, undef], defers := [] } ∧ OwnMid w W ph st cm vg vl fl ws ks ns) (fun _ _ _ => False)) ?_ ?_
  case refine_2 =>
    skip
    go_region_with (first
      | (go_at_call 56; go_loud (refine (CW.out _ hf0.drew).mono ?_); rintro e w1 ⟨vw1, rfl, hr1, -, hf1⟩; obtain ⟨aw1, cw1, rfl⟩ := own_form hr1; have hb1 := (hf1.at (k := w.heap.size) id hbl).trans HB.out; have hF1 := hf0.drew.then0 hf1; obtain ⟨m1, n1, hbl1⟩ := box_cells hb1; have HB1 := Lib.hid hb1; clear hb1)
      | (go_at_call 53; go_loud (refine (CK.out _ hF1).mono ?_); rintro e w2 ⟨vk1, bk1, rfl, hs1, hbk, hf2⟩; obtain ⟨ak1, ck1, rfl⟩ := strs_form hs1; have hb2 := (hf2.at (k := w.heap.size) id hbl1).trans HB1.out; have hF2 := hF1.then0 hf2; obtain ⟨m2, n2, hbl2⟩ := box_cells hb2; have HB2 := Lib.hid hb2; clear hb2)
      | (go_at_call 99; go_loud (refine (CN.out _ hF2).mono ?_); rintro e w3 ⟨vn1, rfl, hr3, hz3, hf3⟩; obtain ⟨an1, cn1, rfl⟩ := own_form hr3; have hb3 := (hf3.at (k := w.heap.size) id hbl2).trans HB2.out; have hF3 := hF2.then0 hf3; obtain ⟨m3, n3, hbl3⟩ := box_cells hb3; have HB3 := Lib.hid hb3; clear hb3))
    all_goals
      have z1 := hf1.size; have z2 := hf2.size; simp only [World.size_drew] at z1
      have zz := lt_of_block HBZ.out
      exact ⟨_, _, _, _, _, _, _, _, _, _, _, _, rfl, own_mid_mk HB3.out hF3 ((hr1.fr0 hf2).fr0 hf3) (hs1.fr0 hf3) hr3 (fun h => hz3 (HN0.out h)) ⟨by simp; omega, by omega⟩ (by omega) (((((Fr.refl N0 W0).drew.then0 hf1).then0 hf2).then0 hf3).at id (lt_of_block HBZ.out) |>.trans HBZ.out)⟩
  intro e a' W hM
  cases e
  case' normal => skip
  all_goals (try exact (hM : False).elim)
  obtain ⟨u3, u4, u5, u6, u7, u8, u9, u10, u11, u12, u13, u14, rfl, hM⟩ := hM
  clear HB HBZ m0 n0 hbl hf0 W0 HN0 CW CK CN
  obtain ⟨aw1, cw1, ak1, ck1, an1, cn1, hb, hW, hK, hN, hn0, hbz, hF⟩ := hM
  have hbl := lt_of_block hb
  obtain ⟨m0, n0, -⟩ := box_cells hb
  have HB := Lib.hid hb; have HBZ := Lib.hid hbz; have HW := Lib.hid hW; have HK := Lib.hid hK; have HN := Lib.hid hN; have HN0 := Lib.hid hn0
  clear hb hbz hW hK hN hn0
  go_wp2
  refine Code.wp_mono (Q := Exit.then (fun a' W => ∃ u3 u4 u5 u6 u7 u8 u9 u10 u11 u12 u13 u14 u15 u16 u17 u18 u19 u20 u21 u22 , a' = { tmps := #[.agg #[.int .u8 ph, .int .u64 st, .int .u64 cm, vw, vk, vn, vg, vl, .bool fl], .pointer (some ⟨w.heap.size, 0, none⟩), .pointer (some ⟨w.heap.size + 1, 0, none⟩), u3, u4, u5, u6, u7, u8, u9, u10, u11, u12, u13, u14, u15, u16, u17, u18, u19, u20, u21, u22, undef], defers := [] } ∧ OwnEnd w W ⟨ph, st, cm, ws, ks, ns, gs, ls, fl⟩) (fun _ _ _ => False)) ?_ ?_
  case refine_2 =>
    go_region_with (first
      | (go_at_call 72; go_loud (refine (CG.out _ hF.drew).mono ?_); rintro e w4 ⟨vg1, rfl, hr4, hf4⟩; obtain ⟨ag1, cg1, rfl⟩ := own_form hr4; have hb4 := (hf4.at (k := w.heap.size) id hbl).trans HB.out; have hF4 := hF.drew.then0 hf4; obtain ⟨m4, n4, hbl4⟩ := box_cells hb4; have HB4 := Lib.hid hb4; clear hb4)
      | (go_at_call 72; go_loud (refine (CL.out _ hF4).mono ?_); rintro e w5 ⟨vl1, rfl, hr5, hf5⟩; obtain ⟨al1, cl1, rfl⟩ := own_form hr5; have hb5 := (hf5.at (k := w.heap.size) id hbl4).trans HB4.out; have hF5 := hF4.then0 hf5; obtain ⟨m5, n5, hbl5⟩ := box_cells hb5; have HB5 := Lib.hid hb5; clear hb5))
    all_goals
      have z4 := hf4.size; simp only [World.size_drew] at z4
      have zz := lt_of_block HBZ.out
      have hfc : Fr N0 W w5 := ((Fr.refl N0 W).drew.then0 hf4).then0 hf5
      have hfd : Fr N0 W w4 := (Fr.refl N0 W).drew.then0 hf4
      exact ⟨_, _, _, _, _, _, _, _, _, _, _, _, _, _, _, _, _, _, _, _, rfl, own_end_mk (t := ⟨ph, st, cm, ws, ks, ns, gs, ls, fl⟩) HB5.out hF5 hf5 (HW.out.imp fun _ h => ⟨h.1, h.2.fr0 hfd⟩) (HK.out.imp fun _ h => ⟨h.1, h.2.fr0 hfd⟩) (HN.out.imp fun _ h => ⟨h.1, h.2.fr0 hfd⟩) HN0.out hr4 hr5 HG.out HL.out ⟨by simp; omega, by omega⟩ ((hfc.at id (lt_of_block HBZ.out)).trans HBZ.out)⟩
  intro e a' W2 hM
  cases e
  case' normal => skip
  all_goals (try exact (hM : False).elim)
  clear HB HBZ HW HK HN HN0 CG CL HG HL m0 n0 hbl hF W
  obtain ⟨u3, u4, u5, u6, u7, u8, u9, u10, u11, u12, u13, u14, u15, u16, u17, u18, u19, u20, u21, u22, rfl, hM⟩ := hM
  obtain ⟨aw1, cw1, ak1, ck1, an1, cn1, ag1, cg1, al1, cl1, hb, hin, hbz, hF, hLF⟩ := hM
  obtain ⟨m0, n0, hbl⟩ := box_cells hb
  obtain ⟨mz, nz, hzl⟩ := box_cells hbz
  have hfin := txn_box_set (v0 := .int .u8 ph) (v1 := .int .u64 st) (v2 := .int .u64 cm) (v3 := .slice aw1 ws.length cw1) (v4 := .slice ak1 ks.length ck1) (v5 := .slice an1 ns.length cn1) (v6 := .slice ag1 gs.length cg1) (v7 := .slice al1 ls.length cl1) (v8 := .bool fl) hbz
  have hff := txn_box_fr (v0 := .int .u8 ph) (v1 := .int .u64 st) (v2 := .int .u64 cm) (v3 := .slice aw1 ws.length cw1) (v4 := .slice ak1 ks.length ck1) (v5 := .slice an1 ns.length cn1) (v6 := .slice ag1 gs.length cg1) (v7 := .slice al1 ls.length cl1) (v8 := .bool fl) (Fr.refl (fun k => k = w.heap.size + 1) W2) (.inl rfl)
  have HIN := Lib.hid hin; have HLF := Lib.hid hLF; have HFIN := Lib.hid hfin; have HFF := Lib.hid hff
  clear hb hbz hin hfin hff hLF
  go_wp2
  (try simp only [Exit.inBlock, Exit.then])
  refine bodyPost_ret_by (results_cell_row rfl _ _ (w.heap.size + 1) 32 _ (0, 0) _ rfl HFIN.out Tryz.underlying32 rfl sizeTxn) rfl ?_
  exact ⟨_, _, _, _, _, rfl, HIN.out.on (by omega) HFF.out, HLF.out _ HFF.out, hF.trans HFF.out (fun k hk => .inr (by omega))⟩

theorem xown_any (w : World) (v : Value) (t : Txn) (h : IsTxn w v t) (hv : Inv t) : Calls Tryz.prog 65 #[v] w fun e w' => ∃ v', e = .returned v' ∧ IsTxn w' v' t ∧ Fr N0 w w' := by
  refine (xown2_any w v t h hv).mono ?_
  rintro e w' ⟨vw, vk, vn, vg, vl, rfl, h1, -, h2⟩
  exact ⟨_, rfl, ⟨vw, vk, vn, vg, vl, rfl, h1⟩, h2⟩

end Go.Proofs.YthidminepegnoaaGreatDoor
