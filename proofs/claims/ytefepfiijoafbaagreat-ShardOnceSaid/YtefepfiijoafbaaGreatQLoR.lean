/- ShardOrder, its third loop: all finals, applied to the first state. append(l[:k:k], l[k+1:]...): one element taken out of a row. -/
import Derived.Test.YtefepfiijoafbaaGreatQLoD
import Derived.Test.YtefepfiijoafbaaGreatQDelW
import Derived.Test.YtefepfiijoafbaaGreatQInsC
namespace Go.Proofs.YtefepfiijoafbaaGreat
open Go.RowKit Go.Shelf Go.Maps
attribute [local go_sem] Oper.semAt_some
attribute [local go_sem ↓] Go.wp_at_zero Go.wp_at_succ
attribute [local irreducible] wpQuiet
set_option linter.unusedVariables false
set_option linter.unusedSimpArgs false

theorem folds_snoc (s : SS) (l : List (Op × OpS)) (x : Op × OpS) : ((l ++ [x]).map (·.1)).foldl stepO s = (sApply ((l.map (·.1)).foldl stepO s) x.1).1 := by simp [List.foldl_append, stepO]
theorem rowk_at {W : World} {b off cap : Nat} {xs : List (Op × OpS)} (h : RowsK opE 16 W b (.slice (some ⟨b, off, none⟩) xs.length cap) xs) (k : Nat) (hk : k < xs.length) : ∀ i, i < 16 → W.cell? ⟨b, off + k * 16 + i, none⟩ = (opE xs[k])[i]? := fun i hi => by
  obtain ⟨a', off', cap', he, h1, h2, h3, h4, h5⟩ := h
  have h3' := h3 (by omega)
  simp only [Value.slice.injEq] at he
  obtain ⟨ha, -, -⟩ := he
  rw [← ha] at h3'
  simp only [Option.some.injEq, Addr.mk.injEq, true_and, and_true] at h3'
  subst h3'
  exact h5 k hk i hi
theorem rowk_form {W : World} {b cap n : Nat} {a : Option Addr} {xs : List (Op × OpS)} (h : RowsK opE 16 W b (.slice a n cap) xs) : n = xs.length ∧ n ≤ cap ∧ cap ≤ 9223372036854775807 ∧ (0 < n → ∃ off, a = some ⟨b, off, none⟩) := by
  obtain ⟨a', off', cap', he, h1, h2, h3, h4, h5⟩ := h
  simp only [Value.slice.injEq] at he
  obtain ⟨rfl, rfl, rfl⟩ := he
  exact ⟨rfl, h1, h2, fun h0 => ⟨off', h3 h0⟩⟩
set_option maxRecDepth 100000 in
set_option maxHeartbeats 4000000 in
theorem lo3 {K : Act → World → Prop} {Q : Exit → Act → World → Prop} (w W : World) (Ra Rb S : Nat → Prop) (pa pb : Nat) (s2 : SS) (N : Nat) (fs : List (Op × OpS)) (bq n : Nat) (a : Option Addr) (cap : Nat) (hr : RowsK opE 16 W bq (.slice a n cap) fs) (hS : 0 < fs.length → S bq) (hgood : ∀ x ∈ fs, OpIs w x.1 x.2 ∧ x.1.wf ∧ x.1.kind = 3) (hn : n ≤ 60) (hT : Trio w W Ra Rb S pa pb s2 s2 N N) (hN : N ≤ 1000) (f : Nat → Value)
    (h7 : f 7 = .pointer (some ⟨pa, 0, none⟩)) (h11 : f 11 = .slice a n cap) (h14 : f 14 = .int .i64 0)
    (hK : ∀ f' W' Ra', f' 2 = f 2 → f' 7 = f 7 → f' 8 = f 8 → f' 11 = f 11 → Trio w W' Ra' Rb S pa pb ((fs.map (·.1)).foldl stepO s2) s2 (N + n) N → RowsK opE 16 W' bq (.slice a n cap) fs → K (frA 174 f') W') :
    Code.wp Tryz.prog (lvIn (lvSnd (lvFst (loB 8)))) (Exit.inBlock 4 (Exit.then K Q)) (frA 174 f) W := by
  obtain ⟨e1, r1, r2, r3⟩ := rowk_form hr
  have HK := Lib.hid hK; have HL := Lib.hid e1; have HG := Lib.hid hgood; have HT := Lib.hid hT; have HS := Lib.hid hS; have HR := Lib.hid hr
  clear hK hgood hT hS hr e1
  show Code.wp _ _ _ { tmps := #[f 0, f 1, f 2, f 3, f 4, f 5, f 6, f 7, f 8, f 9, f 10, f 11, f 12, f 13, f 14, f 15, f 16, f 17, f 18, f 19, f 20, f 21, f 22, f 23, f 24, f 25, f 26, f 27, f 28, f 29, f 30, f 31, f 32, f 33, f 34, f 35, f 36, f 37, f 38, f 39, f 40, f 41, f 42, f 43, f 44, f 45, f 46, f 47, f 48, f 49, f 50, f 51, f 52, f 53, f 54, f 55, f 56, f 57, f 58, f 59, f 60, f 61, f 62, f 63, f 64, f 65, f 66, f 67, f 68, f 69, f 70, f 71, f 72, f 73, f 74, f 75, f 76, f 77, f 78, f 79, f 80, f 81, f 82, f 83, f 84, f 85, f 86, f 87, f 88, f 89, f 90, f 91, f 92, f 93, f 94, f 95, f 96, f 97, f 98, f 99, f 100, f 101, f 102, f 103, f 104, f 105, f 106, f 107, f 108, f 109, f 110, f 111, f 112, f 113, f 114, f 115, f 116, f 117, f 118, f 119, f 120, f 121, f 122, f 123, f 124, f 125, f 126, f 127, f 128, f 129, f 130, f 131, f 132, f 133, f 134, f 135, f 136, f 137, f 138, f 139, f 140, f 141, f 142, f 143, f 144, f 145, f 146, f 147, f 148, f 149, f 150, f 151, f 152, f 153, f 154, f 155, f 156, f 157, f 158, f 159, f 160, f 161, f 162, f 163, f 164, f 165, f 166, f 167, f 168, f 169, f 170, f 171, f 172, f 173], defers := [] } _
  rw [h7, h11, h14]
  have H7 := Lib.hid h7; have H11 := Lib.hid h11
  clear h7 h11 h14
  conv => arg 2; whnf
  go_frame
  go_loopw [14] (fun iv wr => ∃ (k : Nat) (Ra : Nat → Prop), k ≤ n ∧ iv = .int .i64 k ∧ Hid (Trio w wr Ra Rb S pa pb (((fs.take k).map (·.1)).foldl stepO s2) s2 (N + k) N) ∧ Hid (RowsK opE 16 wr bq (.slice a n cap) fs)) (fun iv _ => n - (intOf iv).toNat)
  case atStart => exact ⟨0, Ra, Nat.zero_le _, rfl, HT, HR⟩
  case round =>
    obtain ⟨k, Ra1, hk, rfl, HX, HRX⟩ := hrel
    by_cases hlt : k < n
    · obtain ⟨off, rfl⟩ := r3 (by omega)
      have hc : k < fs.length := by rw [← HL.out]; exact hlt
      have hat := op_at (rowk_at (HL.out ▸ HRX.out) k hc)
      obtain ⟨hop, hwf, hk3⟩ := HG.out fs[k] (List.getElem_mem hc)
      have hcall := trio_cells HX.out (by omega) fs[k].1 hwf fs[k].2 hop (.inr (.inr hk3)) _ rfl
      have hts := List.take_succ_eq_append_getElem hc
      have hfo := folds_snoc s2 (fs.take k) fs[k]
      rw [← hts] at hfo
      have HFO := Lib.hid hfo
      obtain ⟨x, hx⟩ : ∃ x, fs[k] = x := ⟨_, rfl⟩
      rw [hx] at HFO
      simp only [hx] at hat hcall
      obtain ⟨⟨kd, st, cm, ws, ⟨sp, sy, sl, se, sm, so, sr, sc⟩, pr, at_, nt, np⟩, ⟨wa, wc, ta, tc, pa', pc⟩⟩ := x
      simp only at hat hcall
      obtain ⟨nw, hnw⟩ : ∃ n, ws.length = n := ⟨_, rfl⟩
      simp only [hnw] at hat hcall
      have hki : (k : Int) < (n : Int) := by omega
      have HC := Lib.hid hcall
      have hSb := HS.out (by omega)
      have HSb := Lib.hid hSb
      clear hcall hx hop hwf hk3 hnw hts hfo hc hSb
      obtain ⟨c0, c1, c2, c3, c4, c5, c6, c7, c8, c9, c10, c11, c12, c13, c14, c15⟩ := hat
      go_wp2_with fail
      refine HC.out.mono ?_
      rintro e w2 ⟨rfl, ⟨Ra2, hT2⟩, hf2⟩
      have hr2 : RowsK opE 16 w2 bq (.slice (some ⟨bq, off, none⟩) n cap) fs := rowsK_frT opE_len HRX.out hf2 fun _ => (HX.out.apart bq HSb.out).1
      rw [← HFO.out] at hT2
      have HT2 := Lib.hid hT2; have HR2 := Lib.hid hr2
      clear hT2 hr2 hf2 c0 c1 c2 c3 c4 c5 c6 c7 c8 c9 c10 c11 c12 c13 c14 c15
      go_wp2_with fail
      go_roundw
      case rel => exact ⟨k + 1, Ra2, by omega, by go_num, HT2, HR2⟩
      case measure => simp [intOf]; omega
    · have hkn : k = fs.length := by have := HL.out; omega
      have hkn' : k = n := by omega
      go_wp2
      refine cut_use (n := 174) (K := K) _ rfl ?_
      have hp := HX.out
      rw [show (fs.take k) = fs by rw [hkn, List.take_length], hkn'] at hp
      exact HK.out _ _ Ra1 rfl H7.out.symm rfl H11.out.symm hp HRX.out
end Go.Proofs.YtefepfiijoafbaaGreat
namespace Go.Proofs.YtefepfiijoafbaaGreat
open Go.RowKit Go.Shelf Go.Lib
set_option linter.unusedVariables false
set_option linter.unusedSimpArgs false

theorem run_append_none0 {P : Program} (w : World) (t ty e : TypeId) (i : TypeInfo) (ht : P.underlying t = some (.slice e)) (hi : P.info? e = some i) (b a : Addr) (k c : Nat) :
    (Builtin.append_ #[t, t] ty #[.slice (some b) k k, .slice (some a) 0 c]).run P w = .ok (.slice (some b) k k) w := by
  have hf := run_firstCells_some (P := P) w i.size 0 a 0 c [] (by simp) (by simp)
  simp [Builtin.append_, run_underlying ht, sizeOf, typeInfo, hi, Builtin.lenOf, hf, storeCells]
theorem wpList_append_run {P : Program} (w : World) {ops : Array Oper} {rest : List Oper} {o : Oper} {a : Act} {Q : Exit → Act → World → Prop} (hgd : o.guard = none) (d s : Operand) (t t' : TypeId)
    (ho : o.op = .call { callee := .builtin .append, args := #[d, s], argTypes := #[t, t'] }) (v u : Value) (hd : a.eval d = v) (hs : a.eval s = u) {v' : Value} {w' : World}
    (hr : (Builtin.append_ #[t, t'] o.type #[v, u]).run P w = .ok v' w') (h : wpList P ops Q rest (a.put o.dst v') w') : wpList P ops Q (o :: rest) a w := by
  refine wpList_plain hgd fun K hK => ?_
  unfold Oper.wp
  simp [execOp, ho, resolve, invoke, builtin, hd, hs, hr, Result.andThen]
  exact hK _ _ h
theorem step_append_run {P : Program} {ops : Array Oper} {o : Oper} {a : Act} {w : World} {K : Act → World → Prop} {Q : Exit → Act → World → Prop} {E : Prop}
    (hg : o.guard = none) (d x : Operand) (dT sT : TypeId) (hop : o.op = Op.call { callee := Callee.builtin Builtin.append, args := #[d, x], argTypes := #[dT, sT] })
    (v u : Value) (hd : a.eval d = v) (hs : a.eval x = u) {v' : Value} {w' : World} (hr : (Builtin.append_ #[dT, sT] o.type #[v, u]).run P w = .ok v' w') (h : K (a.put o.dst v') w') :
    if Region.wanted o (yielded ops a.tmps) = true then Oper.wp P o a w K Q else E := by
  have hw : Region.wanted o (yielded ops a.tmps) = true := by simp [Region.wanted, hg]
  rw [if_pos hw]
  unfold Oper.wp
  simp [execOp, hop, resolve, invoke, builtin, hd, hs, hr, Result.andThen]
  exact h
section
variable {α : Type} {enc : α → List Value} {n : Nat}
theorem rowsK_take (hn : ∀ x, (enc x).length = n) {w : World} {b off cap : Nat} {xs : List α} (h : RowsK enc n w b (.slice (some ⟨b, off, none⟩) xs.length cap) xs) (k : Nat) (hk : k ≤ xs.length) : RowsK enc n w b (.slice (some ⟨b, off, none⟩) (xs.take k).length k) (xs.take k) := by
  obtain ⟨a', off', cap', he, h1, h2, h3, h4, h5⟩ := h
  have hl : (xs.take k).length = k := by simp; omega
  simp only [Value.slice.injEq] at he
  obtain ⟨ha, -, rfl⟩ := he
  refine ⟨_, off, k, rfl, by omega, by omega, fun _ => rfl, by simp, fun i hi c hc => ?_⟩
  have hi' : i < xs.length := by omega
  have h3' := h3 (by omega)
  rw [← ha] at h3'
  simp only [Option.some.injEq, Addr.mk.injEq, true_and, and_true] at h3'
  subst h3'
  rw [h5 i hi' c hc, List.getElem_take]
theorem rowsK_drop (hn : ∀ x, (enc x).length = n) {w : World} {b off cap : Nat} {xs : List α} (h : RowsK enc n w b (.slice (some ⟨b, off, none⟩) xs.length cap) xs) (k : Nat) (hk : k < xs.length) : RowsK enc n w b (.slice (some ⟨b, off + k * n, none⟩) (xs.drop k).length (cap - k)) (xs.drop k) := by
  obtain ⟨a', off', cap', he, h1, h2, h3, h4, h5⟩ := h
  have hl : (xs.drop k).length = xs.length - k := by simp
  simp only [Value.slice.injEq] at he
  obtain ⟨ha, -, rfl⟩ := he
  refine ⟨_, off + k * n, cap - k, rfl, by omega, by omega, fun _ => rfl, by simp, fun i hi c hc => ?_⟩
  have hi' : k + i < xs.length := by omega
  have h3' := h3 (by omega)
  rw [← ha] at h3'
  simp only [Option.some.injEq, Addr.mk.injEq, true_and, and_true] at h3'
  subst h3'
  have := h5 (k + i) hi' c hc
  rw [List.getElem_drop, ← this]
  congr 2
  rw [Nat.add_mul]; omega
/-- One element taken out. -/
theorem run_remove {P : Program} (hn : ∀ x, (enc x).length = n) (h0 : 0 < n) (h1 : ∀ x, ∀ u ∈ enc x, u.oneCell' = true) {w : World} {b off cap : Nat} {xs : List α} (h : RowsK enc n w b (.slice (some ⟨b, off, none⟩) xs.length cap) xs) (k : Nat) (hk : k < xs.length) (hx : xs.length ≤ 1000)
    (t ty e : TypeId) (i : TypeInfo) (z : Value) (ht : P.underlying t = some (.slice e)) (hi : P.info? e = some i) (hz : i.zero = some z) (hs : i.size = n) (hb : i.bytes ≤ 1000000) (a2 : Addr) (ha2 : k + 1 < xs.length → a2 = ⟨b, off + (k + 1) * n, none⟩) :
    ∃ a cp b' w', (Builtin.append_ #[t, t] ty #[.slice (some ⟨b, off, none⟩) k k, .slice (some a2) (xs.length - (k + 1)) (cap - (k + 1))]).run P w = .ok (.slice (some a) (xs.length - 1) cp) w' ∧
      RowsK enc n w' b' (.slice (some a) (xs.length - 1) cp) (xs.eraseIdx k) ∧ Fr N0 w w' ∧ (b' = b ∨ w.heap.size ≤ b') ∧ b' < w'.heap.size := by
  have hbl : b < w.heap.size := by
    obtain ⟨a', off', cap', he, g1, g2, g3, g4, g5⟩ := h
    have hc := g5 k hk 0 h0
    have hh : 0 < (enc xs[k]).length := by rw [hn]; exact h0
    rw [List.getElem?_eq_getElem hh] at hc
    exact lt_of_cell hc
  have ht' := rowsK_take hn h k (by omega)
  have hlt : (xs.take k).length = k := by simp; omega
  by_cases hk1 : k + 1 < xs.length
  · have hd := rowsK_drop hn h (k + 1) hk1
    have hld : (xs.drop (k + 1)).length = xs.length - (k + 1) := by simp
    have hn1 := rows_news hn h0 ht'
    have hn2 := rows_news hn h0 hd
    obtain ⟨m, hm⟩ : ∃ m, xs.length - (k + 1) = m := ⟨_, rfl⟩
    rw [ha2 hk1, hm]
    have hsum : xs.length - 1 = k + m := by omega
    rw [hsum]
    have hr := run_append_grow (P := P) w t ty e i z ht hi hz ⟨b, off, none⟩ k k ((xs.take k).flatMap enc) (by rw [flat_length hn, hlt, hs]) hn1 ⟨b, off + (k + 1) * n, none⟩ m (cap - (k + 1)) ((xs.drop (k + 1)).flatMap enc) (by rw [flat_length hn, hld, hm, hs]) hn2 (by omega) (by omega) (growslice_fits (by omega) (Nat.le_trans (Nat.mul_le_mul (show k + m ≤ 1000 by omega) hb) (by decide)))
    have hge := grownCap_ge w (k + m) k e
    have hcm : grownCap w (k + m) k e ≤ maxLen := grownCap_le_maxLen w (k + m) k e (by unfold maxLen; omega)
    refine ⟨_, _, w.heap.size, _, hr, ?_, ((Fr.refl N0 w).drew).alloc _, .inr (Nat.le_refl _), by simp⟩
    have hle : (xs.eraseIdx k).length = k + m := by rw [List.length_eraseIdx]; simp [hk]; omega
    refine ⟨_, 0, _, by rw [hle], by omega, by unfold maxLen at hcm; omega, fun _ => rfl, by simp, fun j hj c hc => ?_⟩
    have hfl := flat_get hn (xs.eraseIdx k) j hj c hc
    have hjc : j * n + c < ((xs.eraseIdx k).flatMap enc).length := by
      rw [flat_length hn]
      have : (j + 1) * n ≤ (xs.eraseIdx k).length * n := Nat.mul_le_mul_right _ hj
      rw [Nat.succ_mul] at this; omega
    rw [← hfl, Nat.zero_add]
    have hblk := heap_alloc_new w.drew (.cells (((xs.take k).flatMap enc).toArray ++ ((xs.drop (k + 1)).flatMap enc).toArray ++ Builtin.zeroCells z.cells (grownCap w (k + m) k e - (k + m))) e)
    rw [cell_of_row _ w.heap.size _ _ _ _ hblk]
    rw [List.eraseIdx_eq_take_drop_succ, List.flatMap_append] at hjc ⊢
    rw [← Array.getElem?_toList]
    simp only [Array.toList_append]
    rw [List.getElem?_append_left hjc]
  · have hm : xs.length - (k + 1) = 0 := by omega
    have hkk : xs.length - 1 = k := by omega
    rw [hm, hkk]
    refine ⟨_, _, b, w, run_append_none0 w t ty e i ht hi ⟨b, off, none⟩ a2 k (cap - (k + 1)), ?_, Fr.refl _ _, .inl rfl, hbl⟩
    have he : xs.eraseIdx k = xs.take k := by rw [List.eraseIdx_eq_take_drop_succ, List.drop_eq_nil_of_le (by omega), List.append_nil]
    rw [he]
    rw [hlt] at ht'
    exact ht'
end
end Go.Proofs.YtefepfiijoafbaaGreat
