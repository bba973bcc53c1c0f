/- The document's Page. Condition: at most 2^44 numbers. -/
import Derived.Test.YtldboadcglofaaaPage
namespace Go.Proofs.Ytldboadcglofaaa
open Go.RowKit Go.Shelf
attribute [local go_sem] Oper.semAt_some
set_option linter.unusedVariables false
set_option linter.unusedSimpArgs false

theorem cutOf_sub {L : List Int} {first offset : Int} : ∀ x, x ∈ cutOf L first offset → x ∈ L := by
  intro x hx
  unfold cutOf at hx
  simp only at hx
  split at hx
  · exact List.mem_of_mem_drop (List.mem_of_mem_take hx)
  · split at hx
    · exact List.mem_of_mem_drop (List.mem_of_mem_drop hx)
    · exact List.mem_of_mem_drop hx

theorem cutOf_length (L : List Int) (first offset : Int) : (cutOf L first offset).length ≤ L.length := by
  unfold cutOf
  simp only
  split
  · simp only [List.length_take, List.length_drop]; omega
  · split <;> simp only [List.length_drop] <;> omega

set_option maxHeartbeats 4000000 in
set_option maxRecDepth 100000 in
theorem rpage_any (w : World) (b : Nat) (v : Value) (xs : List Int) (h : Ints .u64 w b v xs) (hl : xs.length ≤ 17592186044416) (first offset u : Int) (hf : -9223372036854775808 ≤ first ∧ first ≤ 9223372036854775807) (ho : -9223372036854775808 ≤ offset ∧ offset ≤ 9223372036854775807) :
    Calls Try.prog 20 #[v, .int .i64 first, .int .i64 offset, .int .u64 u] w fun e w' => ∃ v', e = .returned v' ∧ (∃ b', Ints .u64 w' b' v' (cutOf (xs.filter fun x => !decide (x ≤ u)) first offset)) ∧ Fr N0 w w' := by
  obtain ⟨i0, hi, hz0, hz1, hz2⟩ := info_parts infoU64
  have hwf := h.wf
  obtain ⟨a, off, cap, rfl, h1, h2, h3, h4, h5, h6⟩ := h
  have HC := Lib.hid h5; have HW := Lib.hid hwf; clear h5 h6 h4 hwf
  go_enter Try.func20, Try.ntmps20
  go_wp2
  go_loopw [9, 10] (fun o i wr => ∃ k : Nat, k ≤ xs.length ∧ i = .int .i64 k ∧ Row wr w.heap.size o ((xs.take k).filter fun x => !decide (x ≤ u)) ∧ Fr N0 w wr) (fun _ i _ => xs.length - (intOf i).toNat)
  case atStart => exact ⟨0, Nat.zero_le _, by go_num, by rw [List.take_zero]; exact World.ownsRow_nil _ _ _ _, Fr.refl _ _⟩
  case round =>
    obtain ⟨k, hk, rfl, hrow, hfr⟩ := hrel
    by_cases hlt : k < xs.length
    · obtain rfl := h3 (by omega)
      have hck := hfr.cell id (HC.out k hlt)
      have hts := congrArg (List.filter fun x => !decide (x ≤ u)) (take_succ xs hlt)
      obtain ⟨x, hx⟩ : ∃ x, xs[k] = x := ⟨_, rfl⟩
      rw [hx] at hck hts
      rw [List.filter_append] at hts
      have hwsz := hfr.size
      have hol : ((xs.take k).filter fun x => !decide (x ≤ u)).length ≤ k := Nat.le_trans (List.length_filter_le _ _) (by rw [List.length_take]; omega)
      obtain ⟨O, hO⟩ : ∃ O, (xs.take k).filter (fun x => !decide (x ≤ u)) = O := ⟨_, rfl⟩
      rw [hO] at hrow hts hol
      have HTS := Lib.hid hts; have HR := Lib.hid hrow; have HF := Lib.hid hfr
      clear hts hrow hfr hO hx
      by_cases hxu : x ≤ u
      · go_wp2
        go_roundw
        case rel => exact ⟨k + 1, by omega, by go_num, by rw [HTS.out]; simpa [hxu] using HR.out, HF.out⟩
        case measure => simp [intOf]; omega
      · obtain ⟨n0, hn0⟩ : ∃ n0, O.length = n0 := ⟨_, rfl⟩
        have hrow := HR.out
        simp only [Row] at hrow
        rw [hn0] at hrow hol
        have HRO := Lib.hid hrow; have HN0 := Lib.hid hn0
        clear hrow hn0 HR
        go_wp2_with (at_builtin; go_loud (refine wpList_append_lies _ rfl _ _ 22 rfl w.heap.size 23 i0 (.int .u64 0) 1 8 Try.underlying22 hi hz0 hz1 hz2 rfl (by decide) u9 n0 _ rfl (HRO.out.alloc _) ⟨wr.heap.size, 0, none⟩ 1 1 [.int .u64 x] rfl rfl (World.news_of_block (cs := #[.int .u64 x]) (t := 23) (fr := (0, 0)) (heap_alloc_new wr _)) (by simp [Value.oneCell']) (by omega) (by unfold maxLen; omega) (by omega) (by simp; omega) (wr.heap.size + 1) (by simp) ?_); intro g gc w1 hown hgrow hfresh hlt2)
        go_roundw
        case rel =>
          refine ⟨k + 1, by omega, by go_num, ?_, (HF.out.alloc _).grown hgrow fun q e => .inr (row_base HRO.out e)⟩
          rw [HTS.out, Row]
          have := HN0.out
          simpa [hxu, this] using hown
        case measure => simp [intOf]; omega
    · obtain rfl : k = xs.length := by omega
      have hwL : ∀ x ∈ xs.filter (fun x => !decide (x ≤ u)), (Lit.int .u64 x).wf = true := fun x hx => HW.out x (List.mem_filter.1 hx).1
      have hLl : (xs.filter fun x => !decide (x ≤ u)).length ≤ 17592186044416 := Nat.le_trans (List.length_filter_le _ _) hl
      rw [List.take_length] at hrow
      obtain ⟨L, hL⟩ : ∃ L, xs.filter (fun x => !decide (x ≤ u)) = L := ⟨_, rfl⟩
      rw [hL] at hrow hwL hLl
      have HL := Lib.hid hL; have HF := Lib.hid hfr; have HWL := Lib.hid hwL
      clear hL hfr hwL h3 HC HW hl
      simp only [Row] at hrow
      have hwC : ∀ x ∈ cutOf L first offset, (Lit.int .u64 x).wf = true := fun x hx => HWL.out x (cutOf_sub x hx)
      have hcl : (cutOf L first offset).length ≤ 17592186044416 := Nat.le_trans (cutOf_length _ _ _) hLl
      have hown := World.ownsRow_lit (base := wr.heap.size) (e := 23) (size := 1) wr #[] 0 (Nat.le_refl _) (by simp [maxLen]) rfl
      have hend : ∀ (v' : Value) (w1 : World), w1.ownsRow wr.heap.size 23 1 v' (cutOf L first offset).length ((cutOf L first offset).map (Value.int .u64)) → (wr.alloc (.cells #[] 23)).grownBy w1 (some wr.heap.size) →
          (∃ v'', Ending.returned v' = .returned v'' ∧ (∃ b', Ints .u64 w1 b' v'' (cutOf (xs.filter fun x => !decide (x ≤ u)) first offset)) ∧ Fr N0 w w1) := by
        intro v' w1 hr hg
        rw [HL.out]
        obtain ⟨b', hb⟩ := row_ints (v := v') hr hwC
        exact ⟨v', rfl, ⟨b', hb⟩, (HF.out.alloc _).grown hg fun k e => .inr (by have := HF.out.size; cases e; omega)⟩
      have HO := Lib.hid hown; have HEND := Lib.hid hend
      clear hown hend hwC
      have hrow' := hrow
      rcases hrow.2 with ⟨rfl, h0⟩ | ⟨g, c, cur, rfl, hb, hg, hnc, hcm, hcs, htake⟩
      · have hL0 : L = [] := List.eq_nil_of_length_eq_zero h0
        subst hL0
        have hcut : cutOf [] first offset = [] := by simp [cutOf]
        have hnil : ∀ A W, Ints .u64 W 0 (.slice (some A) 0 0) (cutOf (xs.filter fun x => !decide (x ≤ u)) first offset) := fun A W => by
          rw [HL.out, hcut]
          exact ⟨some A, 0, 0, rfl, Nat.le_refl _, by omega, by simp, by simp, by simp, by simp⟩
        have HNIL := Lib.hid hnil
        clear hrow hrow' hcl hLl h0 HEND hnil hcut
        by_cases f1 : 0 < first
        · have f2 : ¬ first < 0 := by omega
          go_wp2_with fail
          all_goals
            go_ret
            exact ⟨_, rfl, ⟨0, HNIL.out _ _⟩, HF.out.alloc _⟩
        · have f2 : first < 0 → ¬ (0 : Int) < first := by omega
          go_wp2_with fail
          all_goals
            go_ret
            exact ⟨_, rfl, ⟨0, HNIL.out _ _⟩, HF.out.alloc _⟩
      · have hcc : c ≤ 9223372036854775807 := by unfold maxLen at hcm; omega
        obtain ⟨m, hm⟩ : ∃ m, L.length = m := ⟨_, rfl⟩
        rw [hm] at hrow' hnc hLl
        rw [hm]
        clear hrow hb hg hcm hcs htake cur
        have hoff : ∃ t r q o1 : Nat, t ≤ m ∧ m - t = r ∧ (r = 0 ∨ o1 = t) ∧ r ≤ q ∧ q ≤ c ∧ min (max offset 0) (m : Int) = t ∧
            ((¬ 0 < offset ∧ ¬ (m : Int) < offset ∧ r = m ∧ o1 = 0 ∧ q = c) ∨
             ((m : Int) < offset ∧ ¬ (0 : Int) < (m : Int) ∧ r = m ∧ o1 = 0 ∧ q = c) ∨
             ((m : Int) < offset ∧ (0 : Int) < (m : Int) ∧ c = m ∧ r = 0 ∧ o1 = 0 ∧ q = 0) ∨
             ((m : Int) < offset ∧ (0 : Int) < (m : Int) ∧ ¬ c = m ∧ r = 0 ∧ o1 = m ∧ c - m = q) ∨
             (offset = t ∧ (0 : Int) < (t : Int) ∧ ¬ (m : Int) < (t : Int) ∧ c = t ∧ o1 = 0 ∧ q = 0) ∨
             (offset = t ∧ (0 : Int) < (t : Int) ∧ ¬ (m : Int) < (t : Int) ∧ ¬ c = t ∧ o1 = t ∧ c - t = q)) := by
          by_cases ha : 0 < offset
          · by_cases hb : (m : Int) < offset
            · by_cases hm0 : (0 : Int) < (m : Int)
              · by_cases hc : c = m
                · exact ⟨m, 0, 0, 0, by omega, by omega, by omega, by omega, by omega, by omega, .inr (.inr (.inl ⟨hb, hm0, hc, rfl, rfl, rfl⟩))⟩
                · exact ⟨m, 0, c - m, m, by omega, by omega, by omega, by omega, by omega, by omega, .inr (.inr (.inr (.inl ⟨hb, hm0, hc, rfl, rfl, rfl⟩)))⟩
              · exact ⟨0, m, c, 0, by omega, by omega, by omega, by omega, by omega, by omega, .inr (.inl ⟨hb, hm0, rfl, rfl, rfl⟩)⟩
            · obtain ⟨t, ht⟩ : ∃ t : Nat, offset = t := ⟨offset.toNat, by omega⟩
              by_cases hc : c = t
              · exact ⟨t, m - t, 0, 0, by omega, by omega, by omega, by omega, by omega, by omega, .inr (.inr (.inr (.inr (.inl ⟨ht, by omega, by omega, hc, rfl, rfl⟩))))⟩
              · exact ⟨t, m - t, c - t, t, by omega, by omega, by omega, by omega, by omega, by omega, .inr (.inr (.inr (.inr (.inr ⟨ht, by omega, by omega, hc, rfl, rfl⟩))))⟩
          · exact ⟨0, m, c, 0, by omega, by omega, by omega, by omega, by omega, by omega, .inl ⟨ha, by omega, rfl, rfl, rfl⟩⟩
        obtain ⟨t, r, q, o1, htm, hmr, ho2, hrq, hqc, ht, hcase⟩ := hoff
        have hcut : cutOf L first offset = if 0 < first then (L.drop t).take (min first (r : Int)).toNat else if first < 0 ∧ -(r : Int) < first then (L.drop t).drop ((r : Int) + first).toNat else L.drop t := by
          have e1 : (L.drop t).length = r := by rw [List.length_drop, hm, hmr]
          simp only [cutOf, hm, ht, Int.toNat_natCast, e1]
        have hX : ∀ (j k o c' : Nat), j + k ≤ r → (k = 0 ∨ o = t + j) → k ≤ c' → c' ≤ c → (L.drop (t + j)).take k = cutOf L first offset →
            Hid ((∀ (jj : Nat) (uu : Value), ((cutOf L first offset).map (Value.int .u64))[jj]? = some uu → (wr.alloc (.cells #[] 23)).cell? ((⟨g, o, none⟩ : Addr).add jj) = some uu) ∧ (cutOf L first offset).length = k) := by
          intro j k o c' g1 g2 g3 g4 g5
          have hI := row_sub hrow' HWL.out (t + j) k o c' (by omega) g2 g3 g4
          rw [g5] at hI
          have hk : (cutOf L first offset).length = k := by rw [← g5]; simp; omega
          rw [← hk] at hI
          exact ⟨fun jj uu h => ((Fr.refl N0 wr).alloc _).cell (fun h => h) (ints_news hI jj uu h), hk⟩
        have hfst : ∃ k jj : Nat, (0 < first ∧ first = k ∧ k < r ∧ (L.drop t).take k = cutOf L first offset) ∨ (0 < first ∧ ¬ first < (r : Int) ∧ L.drop t = cutOf L first offset) ∨
            (¬ 0 < first ∧ ¬ first < 0 ∧ L.drop t = cutOf L first offset) ∨ (¬ 0 < first ∧ first < 0 ∧ ¬ -(r : Int) < first ∧ L.drop t = cutOf L first offset) ∨
            (¬ 0 < first ∧ first < 0 ∧ -(r : Int) < first ∧ (r : Int) + first = jj ∧ jj < r ∧ (L.drop (t + jj)) = cutOf L first offset) := by
          rw [hcut]
          by_cases hf1 : 0 < first
          · by_cases hf2 : first < (r : Int)
            · exact ⟨first.toNat, 0, .inl ⟨hf1, by omega, by omega, by rw [if_pos hf1, Int.min_eq_left (by omega)]⟩⟩
            · exact ⟨0, 0, .inr (.inl ⟨hf1, hf2, by rw [if_pos hf1, Int.min_eq_right (by omega), List.take_of_length_le (by simp; omega)]⟩)⟩
          · by_cases hf2 : first < 0
            · by_cases hf3 : -(r : Int) < first
              · exact ⟨0, ((r : Int) + first).toNat, .inr (.inr (.inr (.inr ⟨hf1, hf2, hf3, by omega, by omega, by rw [if_neg hf1, if_pos ⟨hf2, hf3⟩, List.drop_drop]⟩)))⟩
              · exact ⟨0, 0, .inr (.inr (.inr (.inl ⟨hf1, hf2, hf3, by rw [if_neg hf1, if_neg (fun h => hf3 h.2)]⟩)))⟩
            · exact ⟨0, 0, .inr (.inr (.inl ⟨hf1, hf2, by rw [if_neg hf1, if_neg (fun h => hf2 h.1)]⟩))⟩
        have hdl : (L.drop t).length = r := by rw [List.length_drop, hm, hmr]
        have hfull : L.drop t = cutOf L first offset → (L.drop (t + 0)).take r = cutOf L first offset := fun e => by rw [Nat.add_zero, List.take_of_length_le (by omega)]; exact e
        have hwrr : IntKind.i64.wrap (-(r : Int)) = -(r : Int) := IntWalk.i64_in _ (by omega)
        obtain ⟨k, jj, hfst⟩ := hfst
        rcases hfst with ⟨f1, rfl, f3, f4⟩ | ⟨f1, f2, f4⟩ | ⟨f1, f2, f4⟩ | ⟨f1, f2, f3, f4⟩ | ⟨f1, f2, f3, f5, f6, f4⟩
        · -- the first ones
          have HX := hX 0 k o1 q (by omega) (by omega) (by omega) hqc (by rw [Nat.add_zero]; exact f4)
          clear hX hfull hcut hdl
          rcases hcase with ⟨a1, a2, rfl, rfl, rfl⟩ | ⟨a1, a2, rfl, rfl, rfl⟩ | ⟨a1, a2, rfl, rfl, rfl, rfl⟩ | ⟨a1, a2, a3, rfl, rfl, a4⟩ | ⟨rfl, a2, a3, rfl, rfl, rfl⟩ | ⟨rfl, a2, a3, a4, rfl, a5⟩
          all_goals first
            | (exfalso; omega)
            | (go_wp2_with (at_builtin; go_loud (refine wpList_append_own _ rfl _ _ 22 rfl wr.heap.size 23 i0 (.int .u64 0) 1 8 Try.underlying22 hi hz0 hz1 hz2 rfl (by decide) _ _ _ rfl HO.out _ _ _ _ rfl (by simp [HX.out.2]) HX.out.1 (by simp [Value.oneCell']) (by unfold maxLen; omega) (by omega) (by simp) ?_); intro v' w1 hown' hgrow _)
               go_ret
               exact HEND.out _ _ (by rw [HX.out.2]; simpa using hown') hgrow)
        · -- all
          have HX := hX 0 r o1 q (by omega) (by omega) hrq hqc (hfull f4)
          clear hX hfull hcut hdl
          rcases hcase with ⟨a1, a2, rfl, rfl, rfl⟩ | ⟨a1, a2, rfl, rfl, rfl⟩ | ⟨a1, a2, rfl, rfl, rfl, rfl⟩ | ⟨a1, a2, a3, rfl, rfl, a4⟩ | ⟨rfl, a2, a3, rfl, rfl, rfl⟩ | ⟨rfl, a2, a3, a4, rfl, a5⟩
          all_goals first
            | (exfalso; omega)
            | (go_wp2_with (at_builtin; go_loud (refine wpList_append_own _ rfl _ _ 22 rfl wr.heap.size 23 i0 (.int .u64 0) 1 8 Try.underlying22 hi hz0 hz1 hz2 rfl (by decide) _ _ _ rfl HO.out _ _ _ _ rfl (by simp [HX.out.2]) HX.out.1 (by simp [Value.oneCell']) (by unfold maxLen; omega) (by omega) (by simp) ?_); intro v' w1 hown' hgrow _)
               go_ret
               exact HEND.out _ _ (by rw [HX.out.2]; simpa using hown') hgrow)
        · -- all (2)
          have HX := hX 0 r o1 q (by omega) (by omega) hrq hqc (hfull f4)
          clear hX hfull hcut hdl
          rcases hcase with ⟨a1, a2, rfl, rfl, rfl⟩ | ⟨a1, a2, rfl, rfl, rfl⟩ | ⟨a1, a2, rfl, rfl, rfl, rfl⟩ | ⟨a1, a2, a3, rfl, rfl, a4⟩ | ⟨rfl, a2, a3, rfl, rfl, rfl⟩ | ⟨rfl, a2, a3, a4, rfl, a5⟩
          all_goals first
            | (exfalso; omega)
            | (go_wp2_with (at_builtin; go_loud (refine wpList_append_own _ rfl _ _ 22 rfl wr.heap.size 23 i0 (.int .u64 0) 1 8 Try.underlying22 hi hz0 hz1 hz2 rfl (by decide) _ _ _ rfl HO.out _ _ _ _ rfl (by simp [HX.out.2]) HX.out.1 (by simp [Value.oneCell']) (by unfold maxLen; omega) (by omega) (by simp) ?_); intro v' w1 hown' hgrow _)
               go_ret
               exact HEND.out _ _ (by rw [HX.out.2]; simpa using hown') hgrow)
        · -- all (3)
          have HX := hX 0 r o1 q (by omega) (by omega) hrq hqc (hfull f4)
          clear hX hfull hcut hdl
          rcases hcase with ⟨a1, a2, rfl, rfl, rfl⟩ | ⟨a1, a2, rfl, rfl, rfl⟩ | ⟨a1, a2, rfl, rfl, rfl, rfl⟩ | ⟨a1, a2, a3, rfl, rfl, a4⟩ | ⟨rfl, a2, a3, rfl, rfl, rfl⟩ | ⟨rfl, a2, a3, a4, rfl, a5⟩
          all_goals first
            | (exfalso; omega)
            | (go_wp2_with (at_builtin; go_loud (refine wpList_append_own _ rfl _ _ 22 rfl wr.heap.size 23 i0 (.int .u64 0) 1 8 Try.underlying22 hi hz0 hz1 hz2 rfl (by decide) _ _ _ rfl HO.out _ _ _ _ rfl (by simp [HX.out.2]) HX.out.1 (by simp [Value.oneCell']) (by unfold maxLen; omega) (by omega) (by simp) ?_); intro v' w1 hown' hgrow _)
               go_ret
               exact HEND.out _ _ (by rw [HX.out.2]; simpa using hown') hgrow)
        · -- the last ones
          have hqj : ¬ q = jj := by omega
          have HX := hX jj (r - jj) (o1 + jj) (q - jj) (by omega) (by omega) (by omega) (by omega) (by rw [List.take_of_length_le (by rw [List.length_drop]; omega)]; exact f4)
          clear hX hfull hcut hdl
          rcases hcase with ⟨a1, a2, rfl, rfl, rfl⟩ | ⟨a1, a2, rfl, rfl, rfl⟩ | ⟨a1, a2, rfl, rfl, rfl, rfl⟩ | ⟨a1, a2, a3, rfl, rfl, a4⟩ | ⟨rfl, a2, a3, rfl, rfl, rfl⟩ | ⟨rfl, a2, a3, a4, rfl, a5⟩
          all_goals first
            | (exfalso; omega)
            | (try simp only [Nat.zero_add] at HX
               go_wp2_with (at_builtin; go_loud (refine wpList_append_own _ rfl _ _ 22 rfl wr.heap.size 23 i0 (.int .u64 0) 1 8 Try.underlying22 hi hz0 hz1 hz2 rfl (by decide) _ _ _ rfl HO.out _ _ _ _ rfl (by simp [HX.out.2]) HX.out.1 (by simp [Value.oneCell']) (by unfold maxLen; omega) (by omega) (by simp) ?_); intro v' w1 hown' hgrow _)
               go_ret
               exact HEND.out _ _ (by rw [HX.out.2]; simpa using hown') hgrow)

end Go.Proofs.Ytldboadcglofaaa
