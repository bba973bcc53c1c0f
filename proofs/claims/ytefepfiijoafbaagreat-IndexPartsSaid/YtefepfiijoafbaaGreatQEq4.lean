/- fit: why a commit may not be one of a schema. slices.Clone at uint64; Marked, Times. slices.Equal at uint64. -/
import Derived.Deep.QuietTactic
import Derived.Test.YtefepfiijoafbaaGreatQOwn
namespace Go.Proofs.YtefepfiijoafbaaGreat
open Go.RowKit Go.Shelf
attribute [local go_sem] Oper.semAt_some
set_option linter.unusedVariables false
set_option linter.unusedSimpArgs false
set_option maxRecDepth 100000
set_option maxHeartbeats 2000000

noncomputable def fitAll (s : Sch) (t : Int) (xs : List Wr) : Int := if t = 0 ∨ xs.length = 0 ∨ 256 < xs.length then 180 else firstNZ (xs.map (tFits s))

theorem firstNZ_at : ∀ {l : List Int} {k : Nat} (hk : k < l.length), (∀ j (h : j < l.length), j < k → l[j] = 0) → l[k] ≠ 0 → firstNZ l = l[k]
  | x :: l, 0, hk, hn, h => by simp only [List.getElem_cons_zero] at h ⊢; simp [firstNZ, h]
  | x :: l, k + 1, hk, hn, h => by
    have h0 := hn 0 (by simp) (by omega)
    simp only [List.getElem_cons_zero] at h0
    simp only [List.getElem_cons_succ] at h ⊢
    rw [firstNZ, if_pos h0]
    exact firstNZ_at (by simpa using hk) (fun j hj hjk => by have := hn (j + 1) (by simpa using hj) (by omega); rwa [List.getElem_cons_succ] at this) h
theorem firstNZ_none : ∀ {l : List Int}, (∀ x ∈ l, x = 0) → firstNZ l = 0
  | [], _ => rfl
  | x :: l, h => by rw [firstNZ, if_pos (h x (List.mem_cons_self ..))]; exact firstNZ_none fun y hy => h y (List.mem_cons_of_mem _ hy)

theorem fit_all (w : World) (s : Sch) (c : CmV) (b : Nat) (xs : List Wr) (h : Wrs w b (.slice c.a c.n c.c) xs) (hx : ∀ x ∈ xs, x.wf) :
    Calls Tryz.prog 92 #[.agg s.enc.toArray, .agg c.enc.toArray] w fun e w' => (∃ a : Int, e = .returned (.tuple #[.int .i64 a, .int .i64 (fitAll s c.time xs)])) ∧ Fr N0 w w' := by
  have hF := fun (x : Wr) (hx : x.wf) W => tFits_any s x hx W
  obtain ⟨t, a, n, cp⟩ := c
  obtain ⟨a', off, cap, he, h1, h2, h3, h4, h5⟩ := h
  injection he with ha hn hc
  subst ha hn hc
  simp only [CmV.enc]
  obtain ⟨E, hE⟩ : ∃ E, fitAll s t xs = E := ⟨_, rfl⟩
  obtain ⟨T, hT⟩ : ∃ T : Wr → Int, (fun x => tFits s x) = T := ⟨_, rfl⟩
  have hE' : E = if t = 0 ∨ xs.length = 0 ∨ 256 < xs.length then 180 else firstNZ (xs.map T) := by rw [← hE, ← hT]; rfl
  have hF' : ∀ (x : Wr), x.wf → ∀ W, Calls Tryz.prog 145 #[.agg s.enc.toArray, .agg x.enc.toArray] W fun e w' => e = .returned (.int .i64 (T x)) ∧ Fr N0 W w' := by rw [← hT]; exact hF
  rw [hE]
  clear hE hT hF
  have HC := Lib.hid h5; have HX := Lib.hid hx; have HF := Lib.hid hF'; have HE := Lib.hid hE'
  clear h5 hx hF' hE' h4
  obtain ⟨sp, st, sl, se, sm, so, sr, sc⟩ := s
  unfold Sch.enc at HF ⊢
  simp only at HF ⊢
  by_cases ht : t = 0
  · have hE : E = 180 := by rw [HE.out, if_pos (.inl ht)]
    subst ht hE
    go_enter Tryz.func92, Tryz.ntmps92
    go_wp2
    go_ret2
    exact ⟨⟨_, rfl⟩, ((Fr.refl _ _).alloc _).alloc _⟩
  by_cases hn0 : xs.length = 0
  · have hE : E = 180 := by rw [HE.out, if_pos (.inr (.inl hn0))]
    subst hE
    have hn0' : (xs.length : Int) = 0 := by omega
    go_enter Tryz.func92, Tryz.ntmps92
    go_wp2
    go_ret2
    exact ⟨⟨_, rfl⟩, ((Fr.refl _ _).alloc _).alloc _⟩
  have hn0' : ¬ (xs.length : Int) = 0 := by omega
  by_cases hn1 : 256 < xs.length
  · have hE : E = 180 := by rw [HE.out, if_pos (.inr (.inr hn1))]
    subst hE
    have hn1' : (256 : Int) < (xs.length : Int) := by omega
    go_enter Tryz.func92, Tryz.ntmps92
    go_wp2
    go_ret2
    exact ⟨⟨_, rfl⟩, ((Fr.refl _ _).alloc _).alloc _⟩
  have hn1' : ¬ (256 : Int) < (xs.length : Int) := by omega
  have hl : xs.length ≤ 1000000 := by omega
  have hE : E = firstNZ (xs.map T) := by rw [HE.out, if_neg (by rintro (h | h | h) <;> contradiction)]
  have HE2 := Lib.hid hE
  clear hE HE
  obtain ⟨W0, hW0⟩ : ∃ W0, (w.alloc (Obj.cells #[.string sp, .int .u8 st, .bool sl, .bool se, .bool sm, .bool so, .bool sr, .bool sc] 32)).alloc (Obj.cells #[.int .u64 t, .slice a xs.length cp] 80) = W0 := ⟨_, rfl⟩
  have hf0 : Fr N0 w W0 := by rw [← hW0]; exact ((Fr.refl _ _).alloc _).alloc _
  have hb1 : W0.heap[w.heap.size]? = some (Obj.cells #[.string sp, .int .u8 st, .bool sl, .bool se, .bool sm, .bool so, .bool sr, .bool sc] 32 (0, 0)) := by rw [← hW0]; exact (Below.heap_alloc _ _ _ (by simp)).trans (World.alloc_heap_new w _)
  have hb2 : W0.heap[w.heap.size + 1]? = some (Obj.cells #[.int .u64 t, .slice a xs.length cp] 80 (0, 0)) := by
    rw [← hW0]
    have := World.alloc_heap_new (w.alloc (Obj.cells #[.string sp, .int .u8 st, .bool sl, .bool se, .bool sm, .bool so, .bool sr, .bool sc] 32)) (Obj.cells #[.int .u64 t, .slice a xs.length cp] 80)
    rwa [World.size_alloc] at this
  have ht' : (t == 0) = false := by simpa using ht
  have hn0'' : ((xs.length : Int) == 0) = false := by simpa using hn0
  have HB1 := Lib.hid hb1; have HF0 := Lib.hid hf0
  obtain ⟨m2, n2, l2⟩ := box_cells hb2
  clear hb1 hb2 hf0
  go_enter Tryz.func92, Tryz.ntmps92
  go_wp2
  first | rw [hW0] | skip
  clear hW0
  go_loopw [27] (fun iv wr => ∃ k : Nat, k ≤ xs.length ∧ iv = .int .i64 k ∧ Hid (∀ j (h : j < xs.length), j < k → T xs[j] = 0) ∧ Fr N0 W0 wr) (fun iv _ => xs.length - (intOf iv).toNat)
  case atStart => exact ⟨0, Nat.zero_le _, rfl, fun j h hj => by omega, Fr.refl _ _⟩
  case round =>
    obtain ⟨k, hk, rfl, hn, hfr⟩ := hrel
    by_cases hlt : k < xs.length
    · obtain rfl := h3 (by omega)
      have hfw := HF0.out.then0 hfr
      obtain ⟨c0, c1, c2, c3, c4, c5, c6, c7⟩ := wr_cells (W := w) (HC.out k hlt)
      replace c0 := hfw.cell id c0; replace c1 := hfw.cell id c1; replace c2 := hfw.cell id c2; replace c3 := hfw.cell id c3
      replace c4 := hfw.cell id c4; replace c5 := hfw.cell id c5; replace c6 := hfw.cell id c6; replace c7 := hfw.cell id c7
      have hsb := (hfr.at (k := w.heap.size) id (lt_of_block HB1.out)).trans HB1.out
      obtain ⟨m1, n1, l1⟩ := box_cells hsb
      have hcall := HF.out xs[k] (HX.out _ (List.getElem_mem hlt))
      have hnx : T xs[k] = 0 → ∀ j (h : j < xs.length), j < k + 1 → T xs[j] = 0 := fun he j h hj => by
        rcases Nat.lt_or_ge j k with h' | h'
        · exact hn.out j h h'
        · have : j = k := by omega
          subst this; exact he
      have hfd : T xs[k] ≠ 0 → E = T xs[k] := fun hne => by
        rw [HE2.out, firstNZ_at (k := k) (by simpa using hlt) (fun j hj hjk => by simpa using hn.out j (by simpa using hj) hjk) (by simpa using hne)]
        simp
      obtain ⟨x, hx⟩ : ∃ x, xs[k] = x := ⟨_, rfl⟩
      simp only [hx] at c0 c1 c2 c3 c4 c5 c6 c7 hcall hnx hfd
      obtain ⟨q, hq⟩ : ∃ q, T x = q := ⟨_, rfl⟩
      rw [hq] at hcall hnx hfd
      obtain ⟨xd, xu, xp, vk, vb, vn, vs, vu⟩ := x
      unfold Wr.enc at hcall
      simp only at c0 c1 c2 c3 c4 c5 c6 c7 hcall
      have hki : (k : Int) < (xs.length : Int) := by omega
      have HCALL := Lib.hid hcall; have HNX := Lib.hid hnx; have HFD := Lib.hid hfd; have HFR := Lib.hid hfr; have HFW := Lib.hid hfw
      clear hcall hx hq hnx hfd hn hfr hfw hsb n1 n2 m2 l2 HB1
      by_cases hq0 : q = 0
      · subst hq0
        go_wp2_with (go_at_call 145; refine (HCALL.out _).mono ?_; rintro e w1 ⟨rfl, hf1⟩)
        go_roundw
        case rel => exact ⟨k + 1, by omega, by go_num, HNX.out trivial, (HFR.out.alloc _).then0 hf1⟩
        case measure => simp [intOf]; omega
      · obtain rfl := HFD.out hq0
        go_wp2_with (go_at_call 145; refine (HCALL.out _).mono ?_; rintro e w1 ⟨rfl, hf1⟩)
        go_ret2
        exact ⟨⟨_, rfl⟩, (HFW.out.alloc _).then0 hf1⟩
    · obtain rfl : k = xs.length := by omega
      have hE0 : E = 0 := by
        rw [HE2.out]
        exact firstNZ_none fun y hy => by
          obtain ⟨x, hx, rfl⟩ := List.mem_map.1 hy
          obtain ⟨j, hj, rfl⟩ := List.mem_iff_getElem.1 hx
          exact hn.out j hj hj
      subst hE0
      have HFW := Lib.hid (HF0.out.then0 hfr)
      clear hfr hn m2 n2 l2
      go_wp2
      go_ret2
      exact ⟨⟨_, rfl⟩, HFW.out⟩
theorem fit_any (w : World) (s : Sch) (c : CmV) (b : Nat) (xs : List Wr) (h : Wrs w b (.slice c.a c.n c.c) xs) (hx : ∀ x ∈ xs, x.wf) (hl : xs.length ≤ 1000000) :
    Calls Tryz.prog 92 #[.agg s.enc.toArray, .agg c.enc.toArray] w fun e w' => (∃ a : Int, e = .returned (.tuple #[.int .i64 a, .int .i64 (fitAll s c.time xs)])) ∧ Fr N0 w w' := fit_all w s c b xs h hx
end Go.Proofs.YtefepfiijoafbaaGreat
namespace Go.Proofs.YtefepfiijoafbaaGreat
open Go.RowKit Go.Shelf
attribute [local go_sem] Oper.semAt_some
set_option linter.unusedVariables false
set_option linter.unusedSimpArgs false
set_option maxRecDepth 100000
set_option maxHeartbeats 2000000

theorem ownsRow_base {w : World} {b1 b2 : Nat} {e : TypeId} {k : Nat} {v : Value} {n : Nat} {xs : List Value} (h : w.ownsRow b1 e k v n xs) (hb : b2 ≤ b1) : w.ownsRow b2 e k v n xs := by
  refine ⟨h.1, h.2.imp id ?_⟩
  rintro ⟨g, cap, cur, h1, h2, h3⟩
  exact ⟨g, cap, cur, h1, Nat.le_trans hb h2, h3⟩

theorem clone4_any (w : World) (b : Nat) (v : Value) (xs : List Int) (h : RowsK enc4 1 w b v xs) (hl : xs.length ≤ 1000000) :
    Calls Tryz.prog 74 #[v] w fun e w' => ∃ v', e = .returned v' ∧ w'.ownsRow w.heap.size 33 1 v' xs.length (xs.flatMap enc4) ∧ (v = .slice none 0 0 → v' = .slice none 0 0) ∧ Fr N0 w w' := by
  obtain ⟨i0, hi, hz0, hz1, hz2⟩ := info_parts ins4_info
  have h' := h
  have hq := fun (w : World) a n c => Lib.run_eql_slice_nil (P := Tryz.prog) w 35 33 a n c 0 0 Tryz.underlying35
  obtain ⟨a, off, cap, rfl, h1, h2, h3, h4, h5⟩ := h
  cases a with
  | none =>
    have hc := h4 rfl
    subst hc
    obtain rfl : xs = [] := List.eq_nil_of_length_eq_zero (by omega)
    go_enter Tryz.func74, Tryz.ntmps74
    go_wp2
    go_ret
    exact ⟨_, rfl, World.ownsRow_nil _ _ _ _, by simp, Fr.refl _ _⟩
  | some a =>
    have hnews := rows_news (enc := enc4) (n := 1) ins4_len (by decide) h'
    clear h' h3 h4 h5
    have hnews' : ∀ (j : Nat) (u : Value), (xs.flatMap enc4)[j]? = some u → (w.alloc (.cells #[] 33)).cell? (a.add j) = some u := fun j u hu =>
      ((Fr.refl N0 w).alloc _).cell (fun h => h) (hnews j u hu)
    have hown := World.ownsRow_lit (base := w.heap.size) (e := 33) (size := 1) w #[] 0 (Nat.le_refl _) (by simp [maxLen]) rfl
    have hlen : (xs.flatMap enc4).length = xs.length * 1 := flat_length (enc := enc4) (n := 1) ins4_len xs
    have HN := Lib.hid hnews'; have HO := Lib.hid hown; have HL := Lib.hid hlen
    clear hnews hnews' hown hlen
    go_enter Tryz.func74, Tryz.ntmps74
    go_wp2_with (at_builtin; go_loud (refine wpList_append_own _ rfl _ _ 35 rfl w.heap.size 33 i0 (.int .u64 0) 1 8 Tryz.underlying35 hi hz0 hz1 hz2 rfl (by decide) _ _ _ rfl HO.out a xs.length cap (xs.flatMap enc4) rfl HL.out HN.out (one_cells ins4_one xs) (by unfold maxLen; omega) (by omega) (by simp) ?_); intro v' w1 hown' hgrow _)
    go_ret
    refine ⟨v', rfl, by simpa using hown', ((Fr.refl _ _).alloc _).grown hgrow (fun k e => .inr ?_)⟩
    have e' : some w.heap.size = some k := e
    cases e'; exact Nat.le_refl _

theorem marked_any (W : World) (R : Nat → Prop) (p : Nat) (l : PL) (h : IsPL W R p l) (hs : 0 < l.s.pred.size) : Calls Tryz.prog 82 #[.pointer (some ⟨p, 0, none⟩)] W fun e w' => e = .returned (.int .u64 l.marked) ∧ Fr N0 W w' := by
  obtain ⟨vt, vc, cs, h1, -⟩ := h
  obtain ⟨m, n, lt⟩ := box_cells h1
  have hn := pNone_any W p l.s.pred (m 0) hs
  have HN := Lib.hid hn
  have H1 := Lib.hid h1
  clear hn h1 m n
  go_enter Tryz.func82, Tryz.ntmps82
  go_wp2_with (go_at_call 71; refine HN.out.mono ?_; rintro e w1 ⟨rfl, hf1⟩; have hb := (hf1.at id lt).trans H1.out; obtain ⟨m, -, -⟩ := box_cells hb)
  go_ret
  exact ⟨rfl, hf1⟩

theorem times_any (W : World) (R : Nat → Prop) (p : Nat) (l : PL) (h : IsPL W R p l) (hs : 0 < l.s.pred.size) (hl : l.times.length ≤ 1000000) :
    Calls Tryz.prog 22 #[.pointer (some ⟨p, 0, none⟩)] W fun e w' => ∃ v', e = .returned v' ∧ w'.ownsRow W.heap.size 33 1 v' l.times.length (l.times.flatMap enc4) ∧ Fr N0 W w' := by
  obtain ⟨vt, vc, cs, h1, -, ⟨h3, -⟩, -⟩ := h
  obtain ⟨m, n, lt⟩ := box_cells h1
  have hn := pNone_any W p l.s.pred (m 0) hs
  obtain ⟨b, -, hb⟩ := rowsK_of_row (enc := enc4) (n := 1) ins4_len (by decide) h3
  have hc := fun (W' : World) (hf : Fr N0 W W') => clone4_any W' b vt l.times (hb.fr0 ins4_len hf) hl
  have HN := Lib.hid hn; have H1 := Lib.hid h1; have HC := Lib.hid hc
  clear hn h1 m n hc h3 hb
  go_enter Tryz.func22, Tryz.ntmps22
  go_wp2_with (first
    | (go_at_call 71; refine HN.out.mono ?_; rintro e w1 ⟨rfl, hf1⟩; have hb := (hf1.at id lt).trans H1.out; obtain ⟨m, -, -⟩ := box_cells hb)
    | (go_at_call 74; refine (HC.out _ hf1).mono ?_; rintro e w2 ⟨v', rfl, hr, -, hf2⟩))
  go_ret
  exact ⟨_, rfl, ownsRow_base hr hf1.size, hf1.then0 hf2⟩
end Go.Proofs.YtefepfiijoafbaaGreat
namespace Go.Proofs.YtefepfiijoafbaaGreat
open Go.RowKit Go.Shelf
attribute [local go_sem] Oper.semAt_some
set_option linter.unusedVariables false
set_option linter.unusedSimpArgs false

set_option maxRecDepth 100000 in
set_option maxHeartbeats 1000000 in
theorem eq4_any (w : World) (b c : Nat) (v z : Value) (xs ys : List Int) (h : Ints .u64 w b v xs) (h' : Ints .u64 w c z ys) :
    Calls Tryz.prog 123 #[v, z] w fun e w' => e = .returned (.bool (decide (xs = ys))) ∧ Fr N0 w w' := by
  obtain ⟨a, off, cap, rfl, h1, h2, h3, h4, h5, h6⟩ := h
  obtain ⟨a', off', cap', rfl, h1', h2', h3', h4', h5', h6'⟩ := h'
  have HC := Lib.hid h5; have HC' := Lib.hid h5'; clear h5 h6 h4 h5' h6' h4'
  by_cases hlen : xs.length = ys.length
  · have hln : ((xs.length : Int) != (ys.length : Int)) = false := by simp [hlen]
    obtain ⟨n, hn⟩ : ∃ n, xs.length = n := ⟨_, rfl⟩
    have hn' : ys.length = n := by omega
    have HX := Lib.hid hn; have HY := Lib.hid hn'
    rw [hn, hn'] at hln
    rw [hn, hn']
    rw [hn] at h1 h3; rw [hn'] at h1' h3'
    clear hlen hn hn'
    go_enter Tryz.func123, Tryz.ntmps123
    go_wp2
    go_loopw [13] (fun i wr => ∃ k : Nat, k ≤ n ∧ i = .int .i64 k ∧ Hid (xs.take k = ys.take k) ∧ Fr N0 w wr) (fun i _ => n - (intOf i).toNat)
    case atStart => exact ⟨0, Nat.zero_le _, rfl, by simp [Hid], Fr.refl _ _⟩
    case round =>
      obtain ⟨k, hk, rfl, hn, hfr⟩ := hrel
      by_cases hlt : k < n
      · obtain rfl := h3 (by omega)
        obtain rfl := h3' (by omega)
        have hxl : k < xs.length := by rw [HX.out]; exact hlt
        have hyl : k < ys.length := by rw [HY.out]; exact hlt
        have e1 := hfr.cell id (HC.out k hxl)
        have e2 := hfr.cell id (HC'.out k hyl)
        have t1 := List.take_succ_eq_append_getElem hxl
        have t2 := List.take_succ_eq_append_getElem hyl
        have hne : xs[k] ≠ ys[k] → xs ≠ ys := fun h e => h (by subst e; rfl)
        obtain ⟨x, hx⟩ : ∃ x, xs[k] = x := ⟨_, rfl⟩
        obtain ⟨y, hy⟩ : ∃ x, ys[k] = x := ⟨_, rfl⟩
        rw [hx] at e1 t1 hne; rw [hy] at e2 t2 hne
        have HT := Lib.hid t1; have HT' := Lib.hid t2; have HNE := Lib.hid hne
        clear t1 t2 hne hx hy hxl hyl
        have hki : (k : Int) < (n : Int) := by omega
        cases hxy : (x != y) with
        | true =>
          go_wp2
          go_quiet (fail)
          go_wp2
          go_ret
          exact ⟨ret_bool (by simp [HNE.out (by simpa using hxy)]), hfr.drewN _⟩
        | false =>
          obtain rfl : x = y := by simpa using hxy
          go_wp2
          go_quiet (fail)
          go_wp2
          go_roundw
          case rel => exact ⟨k + 1, by omega, by go_num, by show xs.take (k + 1) = ys.take (k + 1); rw [HT.out, HT'.out, hn.out], hfr.drewN _⟩
          case measure => simp [intOf]; omega
      · obtain rfl : k = n := by omega
        go_wp2
        go_ret
        have : xs = ys := by
          have := hn.out
          rwa [List.take_of_length_le (by rw [HX.out]; omega), List.take_of_length_le (by rw [HY.out]; omega)] at this
        exact ⟨ret_bool (by simp [this]), hfr⟩
  · have hln : ((xs.length : Int) != (ys.length : Int)) = true := by simp; omega
    have hne : xs ≠ ys := fun e => hlen (by rw [e])
    have HNE := Lib.hid hne
    clear hne hlen
    go_enter Tryz.func123, Tryz.ntmps123
    go_wp2
    go_ret
    exact ⟨ret_bool (by simp [HNE.out]), Fr.refl _ _⟩
end Go.Proofs.YtefepfiijoafbaaGreat
