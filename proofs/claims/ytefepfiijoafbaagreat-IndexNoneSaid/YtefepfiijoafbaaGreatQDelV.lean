/- append(l[:k:k], l[k+1:]...): one element taken out of a row. slices.Delete of one value, over a row that the caller owns. -/
import Derived.Test.YtefepfiijoafbaaGreatQDelW
import Derived.Test.YtefepfiijoafbaaGreatQInsC
import Derived.Test.YtefepfiijoafbaaGreatQValR
namespace Go.Proofs.YtefepfiijoafbaaGreat
open Go.RowKit Go.Shelf Go.Lib
set_option linter.unusedVariables false
set_option linter.unusedSimpArgs false

theorem run_append_none0 {P : Program} (w : World) (t ty e : TypeId) (i : TypeInfo) (ht : P.underlying t = some (.slice e)) (hi : P.info? e = some i) (b a : Addr) (k c : Nat) :
    (Builtin.append_ #[t, t] ty #[.slice (some b) k k, .slice (some a) 0 c]).run P w = .ok (.slice (some b) k k) w := by
  have hf := run_firstCells_some (P := P) w i.size 0 a 0 c [] (by simp) (by simp)
  simp [Builtin.append_, run_underlying ht, sizeOf, typeInfo, hi, Builtin.lenOf, hf, storeCells]
theorem wpList_append_run {P : Program} (w : World) {ops : Array Oper} {rest : List Oper} {o : Oper} {a : Act} {Q : Exit → Act → World → Prop} (hgd : o.guard = none) (d s : Operand) (t t' : TypeId)
    (ho : o.op = .call { callee := .builtin .append, args := #[d, s], argTypes := #[t, t'] }) (v u : Value) (hd : a.eval d = v) (hs : a.eval s = u) {v' : Value} {w' : World}
    (hr : (Builtin.append_ #[t, t'] o.type #[v, u]).run P w = .ok v' w') (h : wpList P ops Q rest (a.put o.dst v') w') : wpList P ops Q (o :: rest) a w := by
  refine wpList_plain hgd fun K hK => ?_
  unfold Oper.wp
  simp [execOp, ho, resolve, invoke, builtin, hd, hs, hr, Result.andThen]
  exact hK _ _ h
theorem step_append_run {P : Program} {ops : Array Oper} {o : Oper} {a : Act} {w : World} {K : Act → World → Prop} {Q : Exit → Act → World → Prop} {E : Prop}
    (hg : o.guard = none) (d x : Operand) (dT sT : TypeId) (hop : o.op = Op.call { callee := Callee.builtin Builtin.append, args := #[d, x], argTypes := #[dT, sT] })
    (v u : Value) (hd : a.eval d = v) (hs : a.eval x = u) {v' : Value} {w' : World} (hr : (Builtin.append_ #[dT, sT] o.type #[v, u]).run P w = .ok v' w') (h : K (a.put o.dst v') w') :
    if Region.wanted o (yielded ops a.tmps) = true then Oper.wp P o a w K Q else E := by
  have hw : Region.wanted o (yielded ops a.tmps) = true := by simp [Region.wanted, hg]
  rw [if_pos hw]
  unfold Oper.wp
  simp [execOp, hop, resolve, invoke, builtin, hd, hs, hr, Result.andThen]
  exact h
section
variable {α : Type} {enc : α → List Value} {n : Nat}
theorem rowsK_take (hn : ∀ x, (enc x).length = n) {w : World} {b off cap : Nat} {xs : List α} (h : RowsK enc n w b (.slice (some ⟨b, off, none⟩) xs.length cap) xs) (k : Nat) (hk : k ≤ xs.length) : RowsK enc n w b (.slice (some ⟨b, off, none⟩) (xs.take k).length k) (xs.take k) := by
  obtain ⟨a', off', cap', he, h1, h2, h3, h4, h5⟩ := h
  have hl : (xs.take k).length = k := by simp; omega
  simp only [Value.slice.injEq] at he
  obtain ⟨ha, -, rfl⟩ := he
  refine ⟨_, off, k, rfl, by omega, by omega, fun _ => rfl, by simp, fun i hi c hc => ?_⟩
  have hi' : i < xs.length := by omega
  have h3' := h3 (by omega)
  rw [← ha] at h3'
  simp only [Option.some.injEq, Addr.mk.injEq, true_and, and_true] at h3'
  subst h3'
  rw [h5 i hi' c hc, List.getElem_take]
theorem rowsK_drop (hn : ∀ x, (enc x).length = n) {w : World} {b off cap : Nat} {xs : List α} (h : RowsK enc n w b (.slice (some ⟨b, off, none⟩) xs.length cap) xs) (k : Nat) (hk : k < xs.length) : RowsK enc n w b (.slice (some ⟨b, off + k * n, none⟩) (xs.drop k).length (cap - k)) (xs.drop k) := by
  obtain ⟨a', off', cap', he, h1, h2, h3, h4, h5⟩ := h
  have hl : (xs.drop k).length = xs.length - k := by simp
  simp only [Value.slice.injEq] at he
  obtain ⟨ha, -, rfl⟩ := he
  refine ⟨_, off + k * n, cap - k, rfl, by omega, by omega, fun _ => rfl, by simp, fun i hi c hc => ?_⟩
  have hi' : k + i < xs.length := by omega
  have h3' := h3 (by omega)
  rw [← ha] at h3'
  simp only [Option.some.injEq, Addr.mk.injEq, true_and, and_true] at h3'
  subst h3'
  have := h5 (k + i) hi' c hc
  rw [List.getElem_drop, ← this]
  congr 2
  rw [Nat.add_mul]; omega
/-- One element taken out. -/
theorem run_remove {P : Program} (hn : ∀ x, (enc x).length = n) (h0 : 0 < n) (h1 : ∀ x, ∀ u ∈ enc x, u.oneCell' = true) {w : World} {b off cap : Nat} {xs : List α} (h : RowsK enc n w b (.slice (some ⟨b, off, none⟩) xs.length cap) xs) (k : Nat) (hk : k < xs.length) (hx : xs.length ≤ 1000)
    (t ty e : TypeId) (i : TypeInfo) (z : Value) (ht : P.underlying t = some (.slice e)) (hi : P.info? e = some i) (hz : i.zero = some z) (hs : i.size = n) (hb : i.bytes ≤ 1000000) (a2 : Addr) (ha2 : k + 1 < xs.length → a2 = ⟨b, off + (k + 1) * n, none⟩) :
    ∃ a cp b' w', (Builtin.append_ #[t, t] ty #[.slice (some ⟨b, off, none⟩) k k, .slice (some a2) (xs.length - (k + 1)) (cap - (k + 1))]).run P w = .ok (.slice (some a) (xs.length - 1) cp) w' ∧
      RowsK enc n w' b' (.slice (some a) (xs.length - 1) cp) (xs.eraseIdx k) ∧ Fr N0 w w' ∧ (b' = b ∨ w.heap.size ≤ b') ∧ b' < w'.heap.size := by
  have hbl : b < w.heap.size := by
    obtain ⟨a', off', cap', he, g1, g2, g3, g4, g5⟩ := h
    have hc := g5 k hk 0 h0
    have hh : 0 < (enc xs[k]).length := by rw [hn]; exact h0
    rw [List.getElem?_eq_getElem hh] at hc
    exact lt_of_cell hc
  have ht' := rowsK_take hn h k (by omega)
  have hlt : (xs.take k).length = k := by simp; omega
  by_cases hk1 : k + 1 < xs.length
  · have hd := rowsK_drop hn h (k + 1) hk1
    have hld : (xs.drop (k + 1)).length = xs.length - (k + 1) := by simp
    have hn1 := rows_news hn h0 ht'
    have hn2 := rows_news hn h0 hd
    obtain ⟨m, hm⟩ : ∃ m, xs.length - (k + 1) = m := ⟨_, rfl⟩
    rw [ha2 hk1, hm]
    have hsum : xs.length - 1 = k + m := by omega
    rw [hsum]
    have hr := run_append_grow (P := P) w t ty e i z ht hi hz ⟨b, off, none⟩ k k ((xs.take k).flatMap enc) (by rw [flat_length hn, hlt, hs]) hn1 ⟨b, off + (k + 1) * n, none⟩ m (cap - (k + 1)) ((xs.drop (k + 1)).flatMap enc) (by rw [flat_length hn, hld, hm, hs]) hn2 (by omega) (by omega) (growslice_fits (by omega) (Nat.le_trans (Nat.mul_le_mul (show k + m ≤ 1000 by omega) hb) (by decide)))
    have hge := grownCap_ge w (k + m) k e
    have hcm : grownCap w (k + m) k e ≤ maxLen := grownCap_le_maxLen w (k + m) k e (by unfold maxLen; omega)
    refine ⟨_, _, w.heap.size, _, hr, ?_, ((Fr.refl N0 w).drew).alloc _, .inr (Nat.le_refl _), by simp⟩
    have hle : (xs.eraseIdx k).length = k + m := by rw [List.length_eraseIdx]; simp [hk]; omega
    refine ⟨_, 0, _, by rw [hle], by omega, by unfold maxLen at hcm; omega, fun _ => rfl, by simp, fun j hj c hc => ?_⟩
    have hfl := flat_get hn (xs.eraseIdx k) j hj c hc
    have hjc : j * n + c < ((xs.eraseIdx k).flatMap enc).length := by
      rw [flat_length hn]
      have : (j + 1) * n ≤ (xs.eraseIdx k).length * n := Nat.mul_le_mul_right _ hj
      rw [Nat.succ_mul] at this; omega
    rw [← hfl, Nat.zero_add]
    have hblk := heap_alloc_new w.drew (.cells (((xs.take k).flatMap enc).toArray ++ ((xs.drop (k + 1)).flatMap enc).toArray ++ Builtin.zeroCells z.cells (grownCap w (k + m) k e - (k + m))) e)
    rw [cell_of_row _ w.heap.size _ _ _ _ hblk]
    rw [List.eraseIdx_eq_take_drop_succ, List.flatMap_append] at hjc ⊢
    rw [← Array.getElem?_toList]
    simp only [Array.toList_append]
    rw [List.getElem?_append_left hjc]
  · have hm : xs.length - (k + 1) = 0 := by omega
    have hkk : xs.length - 1 = k := by omega
    rw [hm, hkk]
    refine ⟨_, _, b, w, run_append_none0 w t ty e i ht hi ⟨b, off, none⟩ a2 k (cap - (k + 1)), ?_, Fr.refl _ _, .inl rfl, hbl⟩
    have he : xs.eraseIdx k = xs.take k := by rw [List.eraseIdx_eq_take_drop_succ, List.drop_eq_nil_of_le (by omega), List.append_nil]
    rw [he]
    rw [hlt] at ht'
    exact ht'
end
end Go.Proofs.YtefepfiijoafbaaGreat
namespace Go.Proofs.YtefepfiijoafbaaGreat
open Go.RowKit Go.Shelf Go.Maps Go.Sort Go.Lib
attribute [local go_sem] Oper.semAt_some
set_option linter.unusedVariables false
set_option linter.unusedSimpArgs false

theorem row_set_cells {g n cap base k : Nat} {e : TypeId} : ∀ (vs : List Value) {w : World} {L : List Value} (o : Nat), w.ownsRow base e k (.slice (some ⟨g, 0, none⟩) n cap) n L → o + vs.length ≤ L.length →
    (w.setCells g o vs).ownsRow base e k (.slice (some ⟨g, 0, none⟩) n cap) n (L.take o ++ vs ++ L.drop (o + vs.length))
  | [], w, L, o, h, _ => by simpa [World.setCells] using h
  | v :: vs, w, L, o, h, hl => by
    have hl' : o + (vs.length + 1) ≤ L.length := by simpa using hl
    have h1 := row_set_cells vs (o + 1) (h.stored o v).1 (by simp; omega)
    have e1 : (L.set o v).take (o + 1) = L.take o ++ [v] := by
      rw [List.set_eq_take_append_cons_drop, if_pos (by omega), List.take_append, List.length_take, Nat.min_eq_left (by omega), List.take_of_length_le (by simp; omega)]
      simp
    have e2 : (L.set o v).drop (o + 1 + vs.length) = L.drop (o + (vs.length + 1)) := by
      rw [List.drop_set, if_pos (by omega)]; congr 1; omega
    rw [e1, e2] at h1
    simpa [World.setCells] using h1
section
variable {α : Type} {enc : α → List Value} {k : Nat}
theorem flat_take (hk : ∀ x, (enc x).length = k) (xs : List α) (i : Nat) (hi : i ≤ xs.length) : (xs.flatMap enc).take (i * k) = (xs.take i).flatMap enc := by
  have h6 : xs.flatMap enc = (xs.take i).flatMap enc ++ (xs.drop i).flatMap enc := by rw [← List.flatMap_append, List.take_append_drop]
  rw [h6, List.take_left' (by rw [flat_length hk, List.length_take, Nat.min_eq_left hi])]
theorem flat_drop (hk : ∀ x, (enc x).length = k) (xs : List α) (i : Nat) (hi : i ≤ xs.length) : (xs.flatMap enc).drop (i * k) = (xs.drop i).flatMap enc := by
  have h6 : xs.flatMap enc = (xs.take i).flatMap enc ++ (xs.drop i).flatMap enc := by rw [← List.flatMap_append, List.take_append_drop]
  rw [h6, List.drop_left' (by rw [flat_length hk, List.length_take, Nat.min_eq_left hi])]
end
abbrev zeroValV : Value := .agg #[.int .u8 0, .bool false, .int .i64 0, .string ⟨#[]⟩, .int .u64 0]
theorem zeroValR : ∀ w, (zeroValue 57).run Tryz.prog w = .ok zeroValV w := fun w => by kernel_rfl

set_option maxRecDepth 100000 in
set_option maxHeartbeats 4000000 in
theorem delV_any (w : World) (base : Nat) (v : Value) (xs : List Val) (i : Nat) (h : w.ownsRow base 57 5 v xs.length (xs.flatMap Val.enc)) (hi : i < xs.length) (hl : xs.length ≤ 1000000) :
    Calls Tryz.prog 210 #[v, .int .i64 i, .int .i64 (i + 1 : Nat)] w fun e w' => ∃ v', e = .returned v' ∧ w'.ownsRow base 57 5 v' (xs.eraseIdx i).length ((xs.eraseIdx i).flatMap Val.enc) ∧ Fr (fun k => v.ownBlock = some k) w w' ∧ v'.ownBlock = v.ownBlock := by
  obtain ⟨i0, hi0, hz0, hz1, hz2⟩ := info_parts val_info
  obtain ⟨n, hn⟩ : ∃ n, xs.length = n := ⟨_, rfl⟩
  obtain ⟨g, cap, rfl⟩ : ∃ g cap, v = .slice (some ⟨g, 0, none⟩) n cap := by
    rcases h.2 with ⟨_, h0⟩ | ⟨g, cap, _, hv, _⟩
    · omega
    · exact ⟨g, cap, by rw [hv, hn]⟩
  have h' : w.ownsRow base 57 5 (.slice (some ⟨g, 0, none⟩) n cap) n (xs.flatMap Val.enc) := by rw [← hn]; rw [← hn] at h; exact h
  have hcap : n ≤ cap ∧ cap ≤ 9223372036854775807 := by
    rcases h'.2 with ⟨h0, _⟩ | ⟨g', cap', cur, h0, hb, hg, hnc, hcm, hcs, htake⟩
    · simp at h0
    · simp at h0; obtain ⟨rfl, rfl⟩ := h0; exact ⟨hnc, by unfold maxLen at hcm; omega⟩
  obtain ⟨hc1, hc2⟩ := hcap
  rw [hn] at hi hl
  obtain ⟨m, hm⟩ : ∃ m, n - (i + 1) = m := ⟨_, rfl⟩
  obtain ⟨news, hnews⟩ : ∃ news, (xs.drop (i + 1)).flatMap Val.enc = news := ⟨_, rfl⟩
  have hnl : news.length = m * 5 := by rw [← hnews, flat_length val_len, List.length_drop, hn, hm]
  have hL : (xs.flatMap Val.enc).length = n * 5 := by rw [flat_length val_len, hn]
  have hcell : ∀ (W : World), W.ownsRow base 57 5 (.slice (some ⟨g, 0, none⟩) n cap) n (xs.flatMap Val.enc) → ∀ j u, news[j]? = some u → W.cell? ((⟨g, (i + 1) * 5, none⟩ : Addr).add j) = some u := fun W hW j u hu => by
    have hj : j < news.length := (List.getElem?_eq_some_iff.1 hu).1
    rw [addr_add0, hW.cellAt ((i + 1) * 5 + j) (by rw [hL] at *; omega)]
    rw [← hnews, ← flat_drop val_len xs (i + 1) (by omega), List.getElem?_drop] at hu
    exact hu
  have happ : ∀ (W : World) a ty, W.ownsRow base 57 5 (.slice (some ⟨g, 0, none⟩) n cap) n (xs.flatMap Val.enc) → (a = (⟨g, (i + 1) * 5, none⟩ : Addr) ∨ m = 0) → (Builtin.append_ #[91, 91] ty #[.slice (some ⟨g, 0, none⟩) i cap, .slice (some a) m (cap - (i + 1))]).run Tryz.prog W = .ok (.slice (some ⟨g, 0, none⟩) (i + m) cap) (W.setCells g (i * 5) news) := fun W a ty hW ha => by
    have := run_append_room_cells (P := Tryz.prog) W 91 ty 57 i0 Tryz.underlying91 hi0 g 0 i cap a m (cap - (i + 1)) news (by rw [hnl, hz1]) (fun j u hu => by
      rcases ha with rfl | h0
      · exact hcell W hW j u hu
      · have hj : j < news.length := (List.getElem?_eq_some_iff.1 hu).1
        rw [hnl, h0] at hj; omega) (by rw [← hnews]; exact one_cells val_one _) (by omega) (fun j hj => by rw [hz1, Nat.zero_add, hW.cellAt _ (by omega), List.getElem?_eq_getElem (by rw [hL]; omega)]; rfl) (fun j hj => by rw [hz1, Nat.zero_add]; exact hW.frozenAt _)
    rw [hz1, Nat.zero_add] at this
    exact this
  obtain ⟨ys, hys⟩ : ∃ ys, xs.take i ++ xs.drop (i + 1) ++ xs.drop (n - 1) = ys := ⟨_, rfl⟩
  have hyl : ys.length = n := by rw [← hys]; simp; omega
  have hset : ∀ (W : World), W.ownsRow base 57 5 (.slice (some ⟨g, 0, none⟩) n cap) n (xs.flatMap Val.enc) → (W.setCells g (i * 5) news).ownsRow base 57 5 (.slice (some ⟨g, 0, none⟩) n cap) n (ys.flatMap Val.enc) := fun W hW => by
    have := row_set_cells news (i * 5) hW (by rw [hL]; omega)
    rw [flat_take val_len xs i (by omega), hnl, ← Nat.add_mul, flat_drop val_len xs (i + m) (by omega), ← hnews, ← List.flatMap_append, ← List.flatMap_append, show i + m = n - 1 by omega, hys] at this
    rw [← hnews]; exact this
  have hty : ys.take (n - 1) = xs.eraseIdx i := by
    rw [← hys, List.eraseIdx_eq_take_drop_succ, List.take_left' (by simp; omega)]
  have hfin : ∀ (W : World) vs, W.ownsRow base 57 5 (.slice (some ⟨g, 0, none⟩) n cap) n (ys.flatMap Val.enc) → (W.setCells g ((n - 1) * 5) vs).ownsRow base 57 5 (.slice (some ⟨g, 0, none⟩) (n - 1) cap) (n - 1) ((xs.eraseIdx i).flatMap Val.enc) := fun W vs hW => by
    have := row_clearK (enc := Val.enc) (k := 5) val_len (m := n - 1) vs hW hyl (by omega)
    rwa [hty] at this
  have hfr : ∀ (W : World) o vs (zs : List Val), W.ownsRow base 57 5 (.slice (some ⟨g, 0, none⟩) n cap) n (zs.flatMap Val.enc) → Fr (fun k => (Value.slice (some ⟨g, 0, none⟩) n cap).ownBlock = some k) W (W.setCells g o vs) := fun W o vs zs hW => by
    rcases hW.2 with ⟨h', _⟩ | ⟨g', cap', cur, h', hb, hcur, _⟩
    · simp at h'
    · simp only [Value.slice.injEq, Option.some.injEq, Addr.mk.injEq, and_true, true_and] at h'
      obtain ⟨rfl, rfl⟩ := h'
      obtain ⟨_, _, _, _, h5⟩ := setCells_specW g _ _ vs W o cur hcur
      exact h5.mono fun k hk => .inl (by rw [hk]; rfl)
  have hcl : ∀ (W : World) ty, W.ownsRow base 57 5 (.slice (some ⟨g, 0, none⟩) n cap) n (ys.flatMap Val.enc) → (Builtin.clear_ #[91] ty #[.slice (some ⟨g, (i + m) * 5, none⟩) (n - (i + m)) (cap - (i + m))]).run Tryz.prog W = .ok (.tuple #[]) (W.setCells g ((i + m) * 5) (Builtin.zeroCells zeroValV.cells (n - (i + m))).toList) := fun W ty hW =>
    run_clear_cells W 91 57 ty zeroValV Tryz.underlying91 zeroValR g ((i + m) * 5) _ _ (by omega) (by intro u hu; simp [Value.cells] at hu; rcases hu with h | h | h | h | h <;> subst h <;> rfl)
      (fun t ht => by
        have e5 : zeroValV.cells.size = 5 := rfl
        rw [e5] at ht
        have hyl5 : (ys.flatMap Val.enc).length = n * 5 := by rw [flat_length val_len, hyl]
        rw [hW.cellAt _ (by rw [hyl5] at *; omega), List.getElem?_eq_getElem (by rw [hyl5]; omega)]; rfl) (fun t ht => hW.frozenAt _)
  have hd : w.drew.ownsRow base 57 5 (.slice (some ⟨g, 0, none⟩) n cap) n (xs.flatMap Val.enc) := h'.fr0 (Fr.refl _ _).drew
  have happ1 := fun a ha => happ w.drew a 91 hd ha
  obtain ⟨W1, hW1⟩ : ∃ W1, w.drew.setCells g (i * 5) news = W1 := ⟨_, rfl⟩
  have hr1 := hset w.drew hd
  have hcl1 := fun ty => hcl _ ty hr1
  have hfn := hfin _ (Builtin.zeroCells zeroValV.cells (n - (i + m))).toList hr1
  have hff : Fr (fun k => (Value.slice (some ⟨g, 0, none⟩) n cap).ownBlock = some k) w _ := (((Fr.refl (fun k => (Value.slice (some ⟨g, 0, none⟩) n cap).ownBlock = some k) w).drew.trans (hfr w.drew (i * 5) news xs hd) fun k hk => .inl hk)).trans (hfr _ ((n - 1) * 5) (Builtin.zeroCells zeroValV.cells (n - (i + m))).toList ys hr1) fun k hk => .inl hk
  simp only [hW1] at happ1 hcl1 hfn hff
  have HFN := Lib.hid hfn; have HFF := Lib.hid hff
  have hle : (xs.eraseIdx i).length = n - 1 := by rw [List.length_eraseIdx]; simp [hn, hi]
  have HLE := Lib.hid hle
  have hni : ¬ n = i := by omega
  clear hfn hff hle happ hset hfin hfr hcl hd hr1 h h' hcell hnews hnl hL hys hyl hty hW1 hn
  obtain rfl : n = i + 1 + m := by omega
  have e1 : i + 1 + m - 1 = i + m := by omega
  simp only [e1] at *
  clear e1 hm
  by_cases hc : cap = i + 1
  · obtain rfl : m = 0 := by omega
    subst hc
    have hrun := happ1 (⟨g, 0, none⟩ : Addr) (.inr rfl)
    have q0 : 0 ≤ (i : Int) + 1 := by omega
    have q1 : (i : Int) ≤ (i : Int) + 1 := by omega
    simp only [Nat.add_zero, Nat.sub_self, Nat.add_sub_cancel_left] at *
    go_enter Tryz.func210, Tryz.ntmps210
    go_wp2
    go_region_law (refine step_append_run (by rfl) _ _ 91 91 (by rfl) _ _ (by go_simp) (by go_simp) hrun ?_)
    go_wp2
    go_ret
    exact ⟨_, rfl, by rw [HLE.out]; exact HFN.out, HFF.out, rfl⟩
  · have hrun := happ1 (⟨g, (i + 1) * 5, none⟩ : Addr) (.inl rfl)
    have q0 : 0 ≤ (i : Int) + 1 := by omega
    have q1 : (i : Int) ≤ (cap : Int) := by omega
    have q2 : (i : Int) + 1 ≤ (cap : Int) := by omega
    have q3 : (i : Int) + 1 ≤ (i : Int) + 1 + (m : Int) := by omega
    have q4 : (i : Int) ≤ (i : Int) + 1 + (m : Int) := by omega
    have q5 : (i : Int) + (m : Int) ≤ (i : Int) + 1 + (m : Int) := by omega
    have q6 : (i : Int) + 1 + (m : Int) ≤ (cap : Int) := by omega
    have q7 : ¬ cap = i + m := by omega
    go_enter Tryz.func210, Tryz.ntmps210
    go_wp2
    go_region_law (refine step_append_run (by rfl) _ _ 91 91 (by rfl) _ _ (by go_simp) (by go_simp) hrun ?_)
    go_wp2
    go_ret
    exact ⟨_, rfl, by rw [HLE.out]; exact HFN.out, HFF.out, rfl⟩
end Go.Proofs.YtefepfiijoafbaaGreat
