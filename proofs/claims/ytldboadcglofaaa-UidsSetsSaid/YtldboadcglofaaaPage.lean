/- A page of a list: uids.Page and the document's Page. Condition: at most 2^44 numbers. -/
import Derived.Test.YtldboadcglofaaaSort
import Derived.Test.YtldboadcglofaaaDelf
import Derived.Test.YtldboadcglofaaaRefOf
namespace Go.Proofs.Ytldboadcglofaaa
open Go.RowKit Go.Shelf
attribute [local go_sem] Oper.semAt_some
set_option linter.unusedVariables false
set_option linter.unusedSimpArgs false

/-- Of a row: from offset on, then the first or the last ones. -/
def cutOf (xs : List Int) (first offset : Int) : List Int :=
  let s := xs.drop (min (max offset 0) xs.length).toNat
  if 0 < first then s.take (min first s.length).toNat else if first < 0 ∧ -(s.length : Int) < first then s.drop (s.length + first).toNat else s

theorem page1_any (x u : Int) (w : World) (B : Nat) (h : w.heap[B]? = some (.cells #[.int .u64 u] 23 (0, 0))) :
    Calls Try.prog 44 #[.int .u64 x, .pointer (some ⟨B, 0, none⟩)] w fun e w' => e = .returned (.bool (decide (x ≤ u))) ∧ w = w' := by
  have hc := cell_of_one h
  clear h
  go_enter Try.func44, Try.ntmps44
  go_wp2
  go_ret
  exact ⟨ret_bool rfl, rfl⟩

theorem enters_Page1 (args : Array Value) (w : World) : (callFunc 44 args).run Try.prog w = .ok (.enter 44 args) w := enters_of Try.func44 (by kernel_rfl) rfl args w

/-- The last part of a row that the caller owns. -/
theorem row_sub {w : World} {base g n cap : Nat} {xs : List Int} (h : w.ownsRow base 23 1 (.slice (some ⟨g, 0, none⟩) n cap) n (xs.map (Value.int .u64))) (hw : ∀ x ∈ xs, (Lit.int .u64 x).wf = true)
    (lo len o c : Nat) (hlo : lo + len ≤ n) (ho : len = 0 ∨ o = lo) (hc : len ≤ c) (hc2 : c ≤ cap) : Ints .u64 w g (.slice (some ⟨g, o, none⟩) len c) ((xs.drop lo).take len) := by
  have hn : xs.length = n := by have := h.1; simpa using this
  have hcm : cap ≤ 9223372036854775807 := by
    rcases h.2 with ⟨h0, _⟩ | ⟨g', cap', cur, h0, hb, hg, hnc, hcm, hcs, htake⟩
    · simp at h0
    · simp at h0; obtain ⟨rfl, rfl⟩ := h0; unfold maxLen at hcm; omega
  have hl : ((xs.drop lo).take len).length = len := by simp; omega
  refine ⟨some ⟨g, o, none⟩, o, c, by rw [hl], by omega, by omega, fun _ => rfl, by simp, fun i hi => ?_, fun x hx => hw x (List.mem_of_mem_drop (List.mem_of_mem_take hx))⟩
  rw [hl] at hi
  rcases ho with ho | ho
  · omega
  · subst ho
    have hx : o + i < xs.length := by omega
    rw [h.cellAt (o + i) (by omega), List.getElem?_map, List.getElem?_eq_getElem hx]
    simp [List.getElem_take, List.getElem_drop]

set_option maxHeartbeats 2000000 in
set_option maxRecDepth 100000 in
theorem page_any (w : World) (n : Nat) (p : Option Addr) (l : List Int) (h : IsL w n p l) (hn : n ≤ w.heap.size) (hl : l.length ≤ 17592186044416) (first offset u : Int) (hf : -9223372036854775808 ≤ first ∧ first ≤ 9223372036854775807) (ho : -9223372036854775808 ≤ offset ∧ offset ≤ 9223372036854775807) :
    Calls Try.prog 19 #[.pointer p, .int .i64 first, .int .i64 offset, .int .u64 u] w fun e w' => ∃ B, e = .returned (.pointer (some ⟨B, 0, none⟩)) ∧
      IsL w' w'.heap.size (some ⟨B, 0, none⟩) (cutOf (l.filter fun x => !decide (x ≤ u)) first offset) ∧ Fr N0 w w' := by
  have hlw : ∀ x ∈ l, (Lit.int .u64 x).wf = true := fun x hx => by
    obtain ⟨_, _, _, _, h4, _⟩ := h; have := h4 x hx; exact WalkArith.wf_u64 (by omega)
  have hlp : ∀ x ∈ l, 0 < x ∧ x < 18446744073709551616 := by obtain ⟨_, _, _, _, h4, _⟩ := h; exact h4
  have hls : l.Pairwise (· < ·) := by obtain ⟨_, _, _, h3, _⟩ := h; exact h3
  have hsl : Calls Try.prog 15 #[.pointer p] (w.alloc (.cells #[.int .u64 u] 23)) fun e w' => ∃ v, e = .returned v ∧ RowC w' (w.heap.size + 1) v l ∧ Fr N0 (w.alloc (.cells #[.int .u64 u] 23)) w' := by
    have := slicec_any (w.alloc (.cells #[.int .u64 u] 23)) n p l (h.below (((Fr.refl N0 w).alloc _).below (fun _ h => h.elim) hn) (Nat.le_refl _)) (by simp; omega) hl
    simpa using this
  have HL := Lib.hid hlw; have HP := Lib.hid hlp; have HS := Lib.hid hls
  clear h hlw hlp hls
  obtain ⟨L, hL⟩ : ∃ L, l.filter (fun x => !decide (x ≤ u)) = L := ⟨_, rfl⟩
  rw [hL]
  have hLn : L.length ≤ 17592186044416 := by rw [← hL]; exact Nat.le_trans (List.length_filter_le _ _) hl
  have hLw : ∀ x ∈ L, (Lit.int .u64 x).wf = true := fun x hx => HL.out x (by rw [← hL] at hx; exact (List.mem_filter.1 hx).1)
  have hLp : ∀ x ∈ L, 0 < x ∧ x < 18446744073709551616 := fun x hx => HP.out x (by rw [← hL] at hx; exact (List.mem_filter.1 hx).1)
  have hLs : L.Pairwise (· < ·) := by rw [← hL]; exact HS.out.filter _
  have h2 : ∀ w2 v, RowC w2 (w.heap.size + 1) v l → Fr N0 (w.alloc (.cells #[.int .u64 u] 23)) w2 →
      Calls Try.prog 32 #[v, .func (.func 44) #[] #[.pointer (some ⟨w.heap.size, 0, none⟩)]] w2 fun e w' => ∃ v', e = .returned v' ∧ RowC w' (w.heap.size + 1) v' L ∧ Fr N0 w w' := by
    intro w2 v hr hf
    have hbx : w2.heap[w.heap.size]? = some (.cells #[.int .u64 u] 23 (0, 0)) := (hf.at id (by simp)).trans (World.alloc_heap_new _ _)
    have hd := delfc_any w2 (w.heap.size + 1) v l hr HL.out hl 44 #[.pointer (some ⟨w.heap.size, 0, none⟩)] (fun W => W.heap[w.heap.size]? = some (.cells #[.int .u64 u] 23 (0, 0))) (fun x => decide (x ≤ u))
      (fun x _ W hW => page1_any x u W _ hW) (fun W hW => (hW.at (fun e => by have := (hr.lt _ e).1; omega) (lt_of_block hbx)).trans hbx) enters_Page1
    refine hd.mono ?_
    rintro e w' ⟨v', rfl, hr', _, hf'⟩
    refine ⟨v', rfl, by rw [← hL]; exact hr', (((Fr.refl _ _).alloc _).trans hf fun _ h => .inl h).trans hf' fun k hk => .inr (by have := (hr.lt k hk).1; omega)⟩
  have h3 : ∀ w4 g v M, Ints .u64 w4 g v M → M.length ≤ 17592186044416 → M.Pairwise (· < ·) → (∀ x ∈ M, 0 < x ∧ x < 18446744073709551616) →
      Calls Try.prog 36 #[.func (.func 58) #[] #[.pointer (some ⟨w4.heap.size, 0, none⟩)]] (w4.alloc (.cells #[v] 22)) fun e w' => ∃ B, e = .returned (.pointer (some ⟨B, 0, none⟩)) ∧
        IsL w' w'.heap.size (some ⟨B, 0, none⟩) M ∧ Fr N0 w4 w' := by
    intro w4 g v M hI hM hs hp
    have hof := of_any _ _ _ _ _ _ (values_seq w4 g v M hI) enters_Val1 (SameOn.refl _ _) (fun k hk => by
      rcases hk with hk | ⟨h0, hk⟩
      · simp; omega
      · have := hI.lt h0; simp; omega) hM hs hp
    refine hof.mono ?_
    rintro e w6 ⟨rfl, hl6, hf6⟩
    exact ⟨_, rfl, hl6, ((Fr.refl _ _).alloc _).then0 hf6⟩
  have H2 := Lib.hid h2; have H3 := Lib.hid h3; have HLW := Lib.hid hLw; have HLP := Lib.hid hLp; have HLS := Lib.hid hLs
  clear h2 h3 hLw hLp hLs hL HL HP HS hl
  go_enter Try.func19, Try.ntmps19
  go_wp2_with fail
  refine hsl.mono ?_
  rintro e w2 ⟨v, rfl, hr, hf⟩
  clear hsl
  go_wp2_with fail
  refine (H2.out _ _ hr hf).mono ?_
  rintro e w3 ⟨v3, rfl, hr3, hf3⟩
  clear H2 hr hf
  rcases hr3 with ⟨rfl, rfl⟩ | ⟨g, c, cap, rfl, h1, h2, h3⟩
  · have hcut : cutOf [] first offset = [] := by simp [cutOf]
    have HX := Lib.hid (H3.out w3 0 _ [] (Ints.nil _ _ _) (by simp) List.Pairwise.nil (by simp))
    clear H3
    by_cases hf1 : 0 < first
    · have hmin : min first (0 : Int) = 0 := by omega
      go_wp2_with (first
          | (go_at_call 37; refine (values_any _ _ _ _).mono ?_; rintro e w5 ⟨rfl, rfl⟩)
          | (go_at_call 36; go_loud (refine HX.out.mono ?_); rintro e w6 ⟨B, rfl, hl6, hf6⟩))
      all_goals
        go_ret
        exact ⟨B, rfl, by rw [hcut]; exact hl6, hf3.then0 hf6⟩
    · have hmin : first < 0 → ¬ (0 : Int) < first := by omega
      go_wp2_with (first
          | (go_at_call 37; refine (values_any _ _ _ _).mono ?_; rintro e w5 ⟨rfl, rfl⟩)
          | (go_at_call 36; go_loud (refine HX.out.mono ?_); rintro e w6 ⟨B, rfl, hl6, hf6⟩))
      all_goals
        go_ret
        exact ⟨B, rfl, by rw [hcut]; exact hl6, hf3.then0 hf6⟩
  · obtain ⟨m, hm⟩ : ∃ m, L.length = m := ⟨_, rfl⟩
    rw [hm] at h1 h3 hLn
    rw [hm]
    obtain ⟨t, ht⟩ : ∃ t : Nat, min (max offset 0) (m : Int) = (t : Int) := ⟨(min (max offset 0) (m : Int)).toNat, by omega⟩
    have htm : t ≤ m := by omega
    obtain ⟨r, hr⟩ : ∃ r, m - t = r := ⟨_, rfl⟩
    obtain ⟨q, hq⟩ : ∃ q, c - t = q := ⟨_, rfl⟩
    have hcc : c ≤ 9223372036854775807 := by
      rcases h3.2 with ⟨h0, _⟩ | ⟨g', cap', cur, h0, hb, hg, hnc, hcm, hcs, htake⟩
      · simp at h0
      · simp at h0; obtain ⟨rfl, rfl⟩ := h0; unfold maxLen at hcm; omega
    have hcut : cutOf L first offset = if 0 < first then (L.drop t).take (min first (r : Int)).toNat else if first < 0 ∧ -(r : Int) < first then (L.drop t).drop ((r : Int) + first).toNat else L.drop t := by
      have e1 : (L.drop t).length = r := by rw [List.length_drop, hm, hr]
      simp only [cutOf, hm, ht, Int.toNat_natCast, e1]
    have hof : ∃ o1, (if c = t then 0 else t) = o1 ∧ (r = 0 ∨ o1 = t) := by
      by_cases hct : c = t
      · exact ⟨0, by simp [hct], .inl (by omega)⟩
      · exact ⟨t, by simp [hct], .inr rfl⟩
    obtain ⟨o1, ho1, ho2⟩ := hof
    have hsub := fun (j k o c' : Nat) (h1 : j + k ≤ r) (ho : k = 0 ∨ o = t + j) (hc : k ≤ c') (hc2 : c' ≤ cap) => row_sub h3 HLW.out (t + j) k o c' (by omega) ho hc hc2
    have hX := fun (j k o c' : Nat) (h1 : j + k ≤ r) (ho : k = 0 ∨ o = t + j) (hc : k ≤ c') (hc2 : c' ≤ cap) => H3.out w3 g _ _ (hsub j k o c' h1 ho hc hc2) (by simp; omega) ((HLS.out.drop).take) (fun x hx => HLP.out x (List.mem_of_mem_drop (List.mem_of_mem_take hx)))
    clear H3 hsub h3 HLW HLP HLS
    have htc : t ≤ c := by omega
    by_cases hf1 : 0 < first
    · obtain ⟨k, hk⟩ : ∃ k : Nat, min first (r : Int) = (k : Int) := ⟨(min first (r : Int)).toNat, by omega⟩
      have hkr : k ≤ r := by omega
      rw [if_pos hf1, hk, Int.toNat_natCast] at hcut
      have hx := hX 0 k o1 q (by omega) (by omega) (by omega) (by omega)
      simp only [Nat.add_zero] at hx
      rw [← hcut] at hx
      have HX := Lib.hid hx
      clear hx hX hcut
      by_cases hct : c = t
      · simp only [hct, if_true] at ho1
        subst ho1
        obtain rfl : q = 0 := by omega
        go_wp2_with (first
          | (go_at_call 37; refine (values_any _ _ _ _).mono ?_; rintro e w5 ⟨rfl, rfl⟩)
          | (go_at_call 36; go_loud (refine HX.out.mono ?_); rintro e w6 ⟨B, rfl, hl6, hf6⟩))
        all_goals
          go_ret
          exact ⟨B, rfl, hl6, hf3.then0 hf6⟩
      · simp only [hct, if_false] at ho1
        subst ho1
        go_wp2_with (first
          | (go_at_call 37; refine (values_any _ _ _ _).mono ?_; rintro e w5 ⟨rfl, rfl⟩)
          | (go_at_call 36; go_loud (refine HX.out.mono ?_); rintro e w6 ⟨B, rfl, hl6, hf6⟩))
        all_goals
          go_ret
          exact ⟨B, rfl, hl6, hf3.then0 hf6⟩
    · rw [if_neg hf1] at hcut
      by_cases hf2 : first < 0 ∧ -(r : Int) < first
      · obtain ⟨j, hj⟩ : ∃ j : Nat, (r : Int) + first = (j : Int) := ⟨((r : Int) + first).toNat, by omega⟩
        have hjr : j ≤ r := by omega
        rw [if_pos hf2, hj, Int.toNat_natCast] at hcut
        have hx := hX j (r - j) (t + j) (q - j) (by omega) (by omega) (by omega) (by omega)
        have e1 : (L.drop (t + j)).take (r - j) = (L.drop t).drop j := by rw [List.drop_drop]; exact List.take_of_length_le (by rw [List.length_drop]; omega)
        rw [e1, ← hcut] at hx
        have HX := Lib.hid hx
        obtain ⟨hf3', hf4⟩ := hf2
        have hct : ¬ c = t := by omega
        have hqj : ¬ q = j := by omega
        simp only [hct, if_false] at ho1
        subst ho1
        clear hx hX hcut e1
        go_wp2_with (first
          | (go_at_call 37; refine (values_any _ _ _ _).mono ?_; rintro e w5 ⟨rfl, rfl⟩)
          | (go_at_call 36; go_loud (refine HX.out.mono ?_); rintro e w6 ⟨B, rfl, hl6, hf6⟩))
        all_goals
          go_ret
          exact ⟨B, rfl, hl6, hf3.then0 hf6⟩
      · rw [if_neg hf2] at hcut
        have hx := hX 0 r o1 q (by omega) (by omega) (by omega) (by omega)
        simp only [Nat.add_zero] at hx
        rw [List.take_of_length_le (by rw [List.length_drop]; omega), ← hcut] at hx
        have HX := Lib.hid hx
        have hf4 : first < 0 → ¬ -(r : Int) < first := fun h h' => hf2 ⟨h, h'⟩
        clear hx hX hcut
        have hwr : IntKind.i64.wrap (-(r : Int)) = -(r : Int) := IntWalk.i64_in _ (by omega)
        by_cases hct : c = t
        · simp only [hct, if_true] at ho1
          subst ho1
          obtain rfl : q = 0 := by omega
          by_cases hneg : first < 0
          · have hf5 := hf4 hneg
            go_wp2_with (first
          | (go_at_call 37; refine (values_any _ _ _ _).mono ?_; rintro e w5 ⟨rfl, rfl⟩)
          | (go_at_call 36; go_loud (refine HX.out.mono ?_); rintro e w6 ⟨B, rfl, hl6, hf6⟩))
            all_goals
              go_ret
              exact ⟨B, rfl, hl6, hf3.then0 hf6⟩
          · clear hf4
            go_wp2_with (first
          | (go_at_call 37; refine (values_any _ _ _ _).mono ?_; rintro e w5 ⟨rfl, rfl⟩)
          | (go_at_call 36; go_loud (refine HX.out.mono ?_); rintro e w6 ⟨B, rfl, hl6, hf6⟩))
            all_goals
              go_ret
              exact ⟨B, rfl, hl6, hf3.then0 hf6⟩
        · simp only [hct, if_false] at ho1
          subst ho1
          by_cases hneg : first < 0
          · have hf5 := hf4 hneg
            go_wp2_with (first
          | (go_at_call 37; refine (values_any _ _ _ _).mono ?_; rintro e w5 ⟨rfl, rfl⟩)
          | (go_at_call 36; go_loud (refine HX.out.mono ?_); rintro e w6 ⟨B, rfl, hl6, hf6⟩))
            all_goals
              go_ret
              exact ⟨B, rfl, hl6, hf3.then0 hf6⟩
          · clear hf4
            go_wp2_with (first
          | (go_at_call 37; refine (values_any _ _ _ _).mono ?_; rintro e w5 ⟨rfl, rfl⟩)
          | (go_at_call 36; go_loud (refine HX.out.mono ?_); rintro e w6 ⟨B, rfl, hl6, hf6⟩))
            all_goals
              go_ret
              exact ⟨B, rfl, hl6, hf3.then0 hf6⟩

end Go.Proofs.Ytldboadcglofaaa
