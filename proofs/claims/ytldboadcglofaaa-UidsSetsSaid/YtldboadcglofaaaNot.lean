/- uids.Not. Condition: at most 2^44 uids. -/
import Derived.Test.YtldboadcglofaaaThose
namespace Go.Proofs.Ytldboadcglofaaa
open Go.RowKit Go.Shelf
attribute [local go_sem] Oper.semAt_some
set_option linter.unusedVariables false
set_option linter.unusedSimpArgs false

/-- An iterator that reads R: blocks more may be counted to what is read alone. -/
theorem SeqOf.extend {α : Type} {P : Program} {g : FuncId} {lb : Array Value} {encs : α → Array Value} {R E : Nat → Prop} {xs : List α} {w : World} (h : SeqOf P g lb encs R xs w) (hE : ∀ k, E k → k < w.heap.size) :
    SeqOf P g lb encs (fun k => R k ∨ E k) xs w := by
  intro l J Jx S W hW hS hJ hJx hY h0
  obtain ⟨E', hE'⟩ : ∃ E' : Nat → Prop, E' = fun k => E k ∧ ¬ R k := ⟨_, rfl⟩
  have hEs : ∀ k, E' k → k < W.heap.size := fun k hk => by rw [hE'] at hk; have := hE k hk.1; have := hW.size; omega
  have hst : ∀ (K : (Nat → Prop) → List α → World → Prop), Stable K → Stable (fun S1 pre X => (∀ k, E' k → S1 k) ∧ (∀ k, E' k → X.heap[k]? = W.heap[k]?) ∧ K (fun k => S1 k ∧ ¬ E' k) pre X) := fun K hK S1 pre A B ⟨h1, h2, h3⟩ hs => by
    refine ⟨h1, fun k hk => ?_, hK _ _ _ _ h3 (SameOn.mono hs fun k hk _ => hk.1)⟩
    have hlt : k < A.heap.size := by
      rcases Nat.lt_or_ge k A.heap.size with h' | h'
      · exact h'
      · have h4 := h2 k hk
        rw [Array.getElem?_eq_none h'] at h4
        have := hEs k hk
        rw [Array.getElem?_eq_getElem this] at h4
        cases h4
    exact (hs.block k (h1 k hk) hlt).trans (h2 k hk)
  have hminus : ∀ (S2 : Nat → Prop), (∀ k, S2 k → ¬ E' k) → (fun k => (S2 k ∨ E' k) ∧ ¬ E' k) = S2 := fun S2 h2 => by
    funext k; apply propext
    exact ⟨fun ⟨h1, h3⟩ => h1.elim id fun h => absurd h h3, fun h1 => ⟨.inl h1, h2 k h1⟩⟩
  have hSE : ∀ k, S k → ¬ E' k := fun k hk he => by rw [hE'] at he; exact (hS k hk).1 (.inr he.1)
  have hmain := h l (fun S1 pre X => (∀ k, E' k → S1 k) ∧ (∀ k, E' k → X.heap[k]? = W.heap[k]?) ∧ J (fun k => S1 k ∧ ¬ E' k) pre X) (fun S1 pre X => (∀ k, E' k → S1 k) ∧ (∀ k, E' k → X.heap[k]? = W.heap[k]?) ∧ Jx (fun k => S1 k ∧ ¬ E' k) pre X)
    (fun k => S k ∨ E' k) W (SameOn.mono hW fun k hk _ => .inl hk) (fun k hk => by
      rcases hk with h1 | h1
      · exact ⟨fun hr => (hS k h1).1 (.inl hr), (hS k h1).2⟩
      · refine ⟨?_, hEs k h1⟩; rw [hE'] at h1; exact h1.2) (hst J hJ) (hst Jx hJx) ?_ ⟨fun k hk => .inr hk, fun _ _ => rfl, by rw [hminus S hSE]; exact h0⟩
  · refine hmain.mono ?_
    rintro e W' ⟨hv, S2, hj, hf, hg⟩
    have hfin : (∀ k, E' k → W'.heap[k]? = W.heap[k]?) → Fr S W W' ∧ Grows S (fun k => S2 k ∧ ¬ E' k) W W' := fun h2 => by
      refine ⟨⟨hf.os, hf.tape, hf.output, hf.size, fun k hk hl => ?_⟩, fun k hk => ⟨?_, (hg k hk.1).2⟩⟩
      · by_cases he : E' k
        · exact h2 k he
        · exact hf.block k (fun h => h.elim hk he) hl
      · rcases (hg k hk.1).1 with (h1 | h1) | h1
        · exact .inl h1
        · exact absurd h1 hk.2
        · exact .inr h1
    rcases hj with ⟨h1, h2, h3⟩ | ⟨pre, hp, h1, h2, h3⟩
    · exact ⟨hv, _, .inl h3, (hfin h2).1, (hfin h2).2⟩
    · exact ⟨hv, _, .inr ⟨pre, hp, h3⟩, (hfin h2).1, (hfin h2).2⟩
  · rintro S1 pre x W1 ⟨h1, h2, h3⟩ hpx hR hb
    have hsz := hR.size
    have hre : SameOn (fun k => R k ∨ E k) W W1 := ⟨hR.os, hR.tape, hR.output, hR.size, fun k hk hl => by
      by_cases hr : R k
      · exact hR.block k hr hl
      · exact h2 k (by rw [hE']; exact ⟨hk.resolve_left hr, hr⟩)⟩
    refine (hY _ pre x W1 h3 hpx hre (fun k hk => ⟨?_, (hb k hk.1).2⟩)).mono ?_
    · rintro (hr | he)
      · exact (hb k hk.1).1 hr
      · exact hk.2 (by rw [hE']; exact ⟨he, (hb k hk.1).1⟩)
    · have hback : ∀ (K : (Nat → Prop) → List α → World → Prop) (S2 : Nat → Prop) (W' : World), K S2 (pre ++ [x]) W' → Fr (fun k => S1 k ∧ ¬ E' k) W1 W' → Grows (fun k => S1 k ∧ ¬ E' k) S2 W1 W' →
          ∃ S3, ((∀ k, E' k → S3 k) ∧ (∀ k, E' k → W'.heap[k]? = W.heap[k]?) ∧ K (fun k => S3 k ∧ ¬ E' k) (pre ++ [x]) W') ∧ Fr S1 W1 W' ∧ Grows S1 S3 W1 W' := fun K S2 W' hK hf hg => by
        have hS2 : ∀ k, S2 k → ¬ E' k := fun k hk he => by
          rcases (hg k hk).1 with h4 | h4
          · exact h4.2 he
          · have := hEs k he; omega
        refine ⟨fun k => S2 k ∨ E' k, ⟨fun k hk => .inr hk, fun k hk => ?_, by rw [hminus S2 hS2]; exact hK⟩, hf.mono fun k hk => .inl hk.1, fun k hk => ?_⟩
        · exact (hf.at (fun h => h.2 hk) (by have := hEs k hk; omega)).trans (h2 k hk)
        · rcases hk with h4 | h4
          · exact ⟨(hg k h4).1.elim (fun h => .inl h.1) .inr, (hg k h4).2⟩
          · exact ⟨.inl (h1 k h4), by have := hEs k h4; have := hf.size; omega⟩
      rintro e W' (⟨rfl, S2, hj, hf, hg⟩ | ⟨rfl, S2, hj, hf, hg⟩)
      · exact .inl ⟨rfl, hback J S2 W' hj hf hg⟩
      · exact .inr ⟨rfl, hback Jx S2 W' hj hf hg⟩

set_option maxRecDepth 100000 in
set_option maxHeartbeats 1000000 in
theorem not1_seq (w : World) (n Ba Bb : Nat) (pa pb : Option Addr) (A B : List Int) (hBa : w.heap[Ba]? = some (.cells #[.pointer pa] 25 (0, 0))) (hBb : w.heap[Bb]? = some (.cells #[.pointer pb] 25 (0, 0)))
    (hA : IsL w n pa A) (hB : IsL w n pb B) (hn : n ≤ w.heap.size) (hlA : A.length ≤ 17592186044416) (hlB : B.length ≤ 17592186044416) :
    SeqOf Try.prog 54 #[.pointer (some ⟨Ba, 0, none⟩), .pointer (some ⟨Bb, 0, none⟩)] enc1 (fun k => k < n ∨ k = Ba ∨ k = Bb) (A.filter fun x => !decide (x ∈ B)) w := by
  intro l J Jx S W hWW hS hJ hJx hY h0
  have hb : Below n w W := hWW.below (fun _ h => .inl h) hn
  have hBa1 := lt_of_block hBa; have hBb1 := lt_of_block hBb
  have hBaW := (hWW.block _ (.inr (.inl rfl)) hBa1).trans hBa
  have hBbW := (hWW.block _ (.inr (.inr rfl)) hBb1).trans hBb
  obtain ⟨W1, hW1⟩ : ∃ W1, W.alloc (.cells #[.func (.yield l) #[] #[]] 34) = W1 := ⟨_, rfl⟩
  obtain ⟨W2, hW2⟩ : ∃ W2, (W1.alloc (.cells #[.pointer pa] 25)).alloc (.cells #[.int .i64 0] 3) = W2 := ⟨_, rfl⟩
  have hz1 : W1.heap.size = W.heap.size + 1 := by rw [← hW1]; simp
  have hz2 : W2.heap.size = W.heap.size + 3 := by rw [← hW2]; simp [hz1]
  have hf1 : Fr N0 W W1 := by rw [← hW1]; exact (Fr.refl _ _).alloc _
  have hf2 : Fr N0 W W2 := by rw [← hW2]; exact (hf1.alloc _).alloc _
  have hy1 : W1.heap[W.heap.size]? = some (.cells #[.func (.yield l) #[] #[]] 34 (0, 0)) := by rw [← hW1]; exact World.alloc_heap_new _ _
  have hf12 : Fr N0 W1 W2 := by rw [← hW2]; exact ((Fr.refl _ _).alloc _).alloc _
  have hy2 := (hf12.at id (lt_of_block hy1)).trans hy1
  have hca1 := hf1.cell id (cell_of_one hBaW)
  have hnW : n ≤ W.heap.size := Nat.le_trans hn hb.size
  have hb1 : ∀ X, Fr N0 W X → Below n w X := fun X hX => ⟨hX.os.trans hb.os, hX.tape.trans hb.tape, hX.output.trans hb.output, Nat.le_trans hb.size hX.size, fun k hk => (hX.at id (by omega)).trans (hb.block k hk)⟩
  have hseq := (all_seq W1 n pa A (hA.below (hb1 W1 hf1) (Nat.le_refl _)) (by omega)).extend (E := fun k => k = Ba ∨ k = Bb ∨ k = W.heap.size) (fun k hk => by have := hb.size; simp; omega)
  rw [hW2] at hseq
  simp only [hz1] at hseq
  have hBW2 := hB.below (hb1 W2 hf2) (Nat.le_refl _)
  have hbB2 := (hf2.at id (by have := hb.size; omega)).trans hBbW
  have HSEQ := Lib.hid hseq; have HY := Lib.hid hY; have HJ := Lib.hid hJ; have HJx := Lib.hid hJx; have HS := Lib.hid hS; have H0 := Lib.hid h0; have HB := Lib.hid hBW2; have HN := Lib.hid hnW; have HBB := Lib.hid hbB2; have HBS := Lib.hid hb.size
  clear hseq hY hJ hJx hS h0 hWW hA hB hBa hBb hBaW hb hn hb1 hBW2 hnW hbB2 hBbW hf12
  refine (callsIn_wide (n := 8)).1 ?_
  refine callsIn_of_wp_marks Try.func54 rfl trivial ?_ rfl
  simp only [Try.ntmps54, List.size_toArray, List.length_cons, List.length_nil, Nat.reduceAdd, Nat.reduceSub, Array.replicate_succ, Array.replicate_zero, List.push_toArray, List.append_toArray, List.nil_append, List.cons_append]
  subst hW1
  gi_wp2_with (refine ⟨trivial, ?_⟩; gi_at_call 18; refine (callsIn_wide.2 (all_any _ _)).mono ?_; rintro e w1 ⟨rfl, rfl⟩)
  refine (wpIn_wide (n := 8)).2 (wp_range1 7 4 rfl rfl enters_from1 HSEQ.out (SameOn.refl _ _)
    S (fun k hk => ⟨fun hr => by
        have h1 := HS.out k hk
        rcases hr with (h | h | h) | h | h | h
        · exact h1.1 (.inl h)
        · omega
        · omega
        · exact h1.1 (.inr (.inl h))
        · exact h1.1 (.inr (.inr h))
        · omega, by have := (HS.out k hk).2; omega⟩) (fun k hk => by have := HN.out; have := HBS.out; omega)
    (fun S1 pre X => J S1 (pre.filter fun x => !decide (x ∈ B)) X) (fun c S1 pre X => c = .ret ∧ Jx S1 (pre.filter fun x => !decide (x ∈ B)) X)
    (by intro S1 pre A B h hs; exact HJ.out _ _ _ _ h hs) (by intro c S1 pre A B h hs; exact ⟨h.1, HJx.out _ _ _ _ h.2 hs⟩) (HJ.out _ _ _ _ H0.out (hf2.same fun _ _ h => h))
    ?assign ?body ?done ?stop)
  case assign =>
    intro l2 x X K hK
    simp only [List.setIfInBounds_toArray, List.set_cons_zero, List.set_cons_succ] at hK ⊢
    gi_wp2
    exact hK
  case body =>
    rintro l2 S1 pre x X hj hpx hRX hbd
    have hR2 : SameOn (fun k => k < n ∨ k = Ba ∨ k = Bb) W X := (hf2.same (S := fun k => k < n ∨ k = Ba ∨ k = Bb) fun _ _ h => h).trans (hRX.mono fun k hk _ => by
      rcases hk with h | h | h
      · exact .inl (.inl h)
      · exact .inr (.inl h)
      · exact .inr (.inr (.inl h)))
    have hkb := cell_of_one ((hRX.block _ (.inr (.inr (.inl rfl))) (lt_of_block HBB.out)).trans HBB.out)
    have hky := (hRX.block _ (.inr (.inr (.inr rfl))) (lt_of_block hy2)).trans hy2
    have hbX : Below n W2 X := ⟨hRX.os, hRX.tape, hRX.output, hRX.size, fun k hk => hRX.block k (.inl (.inl hk)) (by have := HN.out; omega)⟩
    have hha := has_any X n pb B x (HB.out.below hbX (Nat.le_refl _)) (by have := HN.out; have := hRX.size; omega) hlB
    have hYX := fun X2 (h2 : Fr N0 X X2) hp => HY.out S1 _ x X2 (HJ.out _ _ _ _ hj (h2.same fun _ _ h => h)) hp (hR2.fr h2 fun _ _ h => h) (fun k hk => ⟨fun h => (hbd k hk).1 (by
      rcases h with h | h | h
      · exact .inl (.inl h)
      · exact .inr (.inl h)
      · exact .inr (.inr (.inl h))), by have := (hbd k hk).2; have := h2.size; omega⟩)
    have HHA := Lib.hid hha; have HYX := Lib.hid hYX; have HKY := Lib.hid hky
    clear hha hYX hbX hky
    simp only [List.setIfInBounds_toArray, List.set_cons_zero, List.set_cons_succ]
    cases hw : decide (x ∈ B) with
    | true =>
      have hfl : (pre ++ [x]).filter (fun x => !decide (x ∈ B)) = pre.filter fun x => !decide (x ∈ B) := by simp [List.filter_append, hw]
      rw [hw] at HHA
      have HFL := Lib.hid hfl
      clear hfl hw
      gi_wp2_with (refine ⟨trivial, ?_⟩; gi_at_call 16; refine (CallsIn.inRound l2 (callsIn_wide.2 HHA.out)).mono ?_; rintro e w3 ⟨rfl, hf3⟩)
      refine ⟨fun _ h => (by cases h), ?_⟩
      gi_wp2
      refine ⟨S1, by show J S1 _ _; rw [HFL.out]; exact HJ.out _ _ _ _ hj (hf3.same fun _ _ h => h), hf3.mono fun _ h => h.elim, fun k hk => ⟨.inl hk, by have := (hbd k hk).2; have := hf3.size; omega⟩⟩
    | false =>
      have hfl : (pre ++ [x]).filter (fun x => !decide (x ∈ B)) = pre.filter (fun x => !decide (x ∈ B)) ++ [x] := by simp [List.filter_append, hw]
      have hpre : pre.filter (fun x => !decide (x ∈ B)) ++ [x] <+: A.filter fun x => !decide (x ∈ B) := by rw [← hfl]; exact hpx.filter _
      rw [hw] at HHA
      have HFL := Lib.hid hfl; have HPR := Lib.hid hpre
      clear hfl hw hpre
      gi_wp2_with (refine ⟨trivial, ?_⟩; gi_at_call 16; go_loud (refine (CallsIn.inRound l2 (callsIn_wide.2 HHA.out)).mono ?_); rintro e w3 ⟨rfl, hf3⟩; obtain ⟨fn, tmps, assign, body, hy, hR⟩ := yield_in l2 6 (HYX.out w3 hf3 HPR.out); have HR := Lib.hid hR; clear hR; have hk3 := cell_of_one ((hf3.at id (lt_of_block HKY.out)).trans HKY.out))
      refine HR.out.mono ?_
      rintro e W3 (⟨rfl, S2, hj3, hf4, hg4⟩ | ⟨rfl, S2, hj3, hf4, hg4⟩)
      · gi_wp2
        exact ⟨S2, by show J S2 _ _; rw [HFL.out]; exact hj3, (hf3.mono fun _ h => h.elim).trans hf4 fun k hk => .inl hk, fun k hk => ⟨(hg4 k hk).1.elim .inl fun h => .inr (by have := hf3.size; omega), (hg4 k hk).2⟩⟩
      · gi_wp2
        exact ⟨S2, ⟨rfl, by show Jx S2 _ _; rw [HFL.out]; exact hj3⟩, (hf3.mono fun _ h => h.elim).trans hf4 fun k hk => .inl hk, fun k hk => ⟨(hg4 k hk).1.elim .inl fun h => .inr (by have := hf3.size; omega), (hg4 k hk).2⟩⟩
  case done =>
    rintro D S1 X hj hfr hgr hD hDl hDS
    gi_wp2
    refine ⟨by simp, .inl ⟨_, _, rfl, run_takeDeferred hD, ?_⟩⟩
    refine ⟨_, results_none rfl _ _ _, ⟨_, rfl⟩, S1, .inl (HJ.out _ _ _ _ hj ((SameOn.refl _ _).putObj hDS _)), ?_, ?_⟩
    · exact ((hf2.mono fun _ h => h.elim).trans hfr fun k hk => .inl hk).putObj (.inr (by omega)) _
    · exact fun k hk => ⟨(hgr k hk).1.elim .inl fun h => .inr (by omega), by simpa using (hgr k hk).2⟩
  case stop =>
    rintro D c S1 pre X hpx ⟨rfl, hj⟩ hfr hgr hD hDl hDS
    refine (wpIn_wide (n := 8)).1 ?_
    gi_wp2
    refine ⟨by simp, .inl ⟨_, _, rfl, run_takeDeferred hD, ?_⟩⟩
    refine ⟨_, results_none rfl _ _ _, ⟨_, rfl⟩, S1, .inr ⟨_, hpx.filter _, HJx.out _ _ _ _ hj ((SameOn.refl _ _).putObj hDS _)⟩, ?_, ?_⟩
    · exact ((hf2.mono fun _ h => h.elim).trans hfr fun k hk => .inl hk).putObj (.inr (by omega)) _
    · exact fun k hk => ⟨(hgr k hk).1.elim .inl fun h => .inr (by omega), by simpa using (hgr k hk).2⟩

set_option maxRecDepth 100000 in
set_option maxHeartbeats 1000000 in
theorem not_any (w : World) (n : Nat) (pa pb : Option Addr) (A B : List Int) (hA : IsL w n pa A) (hB : IsL w n pb B) (hn : n ≤ w.heap.size) (hlA : A.length ≤ 17592186044416) (hlB : B.length ≤ 17592186044416) :
    Calls Try.prog 30 #[.pointer pa, .pointer pb] w fun e w' => ∃ B', e = .returned (.pointer (some ⟨B', 0, none⟩)) ∧ IsL w' w'.heap.size (some ⟨B', 0, none⟩) (A.filter fun x => !decide (x ∈ B)) ∧ Fr N0 w w' := by
  obtain ⟨W1, hW1⟩ : ∃ W1, w.alloc (.cells #[.pointer pa] 25) = W1 := ⟨_, rfl⟩
  obtain ⟨W2, hW2⟩ : ∃ W2, W1.alloc (.cells #[.pointer pb] 25) = W2 := ⟨_, rfl⟩
  have hz1 : W1.heap.size = w.heap.size + 1 := by rw [← hW1]; simp
  have hz2 : W2.heap.size = w.heap.size + 2 := by rw [← hW2]; simp [hz1]
  have hf2 : Fr N0 w W2 := by rw [← hW2, ← hW1]; exact ((Fr.refl _ _).alloc _).alloc _
  have hBa : W2.heap[w.heap.size]? = some (.cells #[.pointer pa] 25 (0, 0)) := by
    rw [← hW2, Below.heap_alloc _ _ _ (by omega), ← hW1]; exact World.alloc_heap_new _ _
  have hBb : W2.heap[w.heap.size + 1]? = some (.cells #[.pointer pb] 25 (0, 0)) := by
    rw [← hW2, ← hz1]; exact World.alloc_heap_new _ _
  have hbel : Below n w W2 := hf2.below (fun _ h => h.elim) hn
  have hseq := not1_seq W2 n w.heap.size (w.heap.size + 1) pa pb A B hBa hBb (hA.below hbel (Nat.le_refl _)) (hB.below hbel (Nat.le_refl _)) (by omega) hlA hlB
  obtain ⟨_, _, _, hs, hp, _⟩ := hA
  have hof := of_any W2 W2 54 _ _ _ hseq (fun _ _ => rfl) (SameOn.refl _ _) (fun k hk => by omega) (Nat.le_trans (List.length_filter_le _ _) hlA) (hs.sublist List.filter_sublist) (fun x hx => hp x (List.mem_filter.1 hx).1)
  have HOF := Lib.hid hof; have HF := Lib.hid hf2
  clear hof hseq hB hbel hBa hBb hf2 hs hp
  subst hW1
  go_enter Try.func30, Try.ntmps30
  go_wp2_with (go_at_call 36; go_loud (refine HOF.out.mono ?_); rintro e w3 ⟨rfl, hl3, hf3⟩)
  go_ret
  rw [hz2] at hl3
  exact ⟨_, rfl, hl3, HF.out.then0 hf3⟩

end Go.Proofs.Ytldboadcglofaaa
