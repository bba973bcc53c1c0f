/- The document's And, Or, Not, on plain lists. Condition: at most 2^44 numbers in all. -/
import Derived.Test.YtldboadcglofaaaUAlg
namespace Go.Proofs.Ytldboadcglofaaa
open Go.RowKit Go.Shelf
attribute [local go_sem] Oper.semAt_some
set_option linter.unusedVariables false
set_option linter.unusedSimpArgs false

set_option maxHeartbeats 2000000 in
set_option maxRecDepth 100000 in
theorem rnot_any (w : World) (ba bb : Nat) (va vb : Value) (A B : List Int) (hA : Ints .u64 w ba va A) (hB : Ints .u64 w bb vb B) (hl : A.length ≤ 17592186044416) :
    Calls Try.prog 31 #[va, vb] w fun e w' => ∃ v', e = .returned v' ∧ Row w' w.heap.size v' (notOf A B) ∧ Fr N0 w w' := by
  obtain ⟨i0, hi, hz0, hz1, hz2⟩ := info_parts infoU64
  obtain ⟨a, off, cap, rfl, h1, h2, h3, h4, h5, h6⟩ := hA
  have hhas := fun W (hW : Fr N0 w W) u => rhas_any W bb vb B u (hB.fr0 hW)
  have HC := Lib.hid h5; have HHAS := Lib.hid hhas; clear h5 h6 h4 hhas hB
  unfold notOf
  go_enter Try.func31, Try.ntmps31
  go_wp2
  go_loopw [5, 6] (fun o i wr => ∃ k : Nat, k ≤ A.length ∧ i = .int .i64 k ∧ Row wr w.heap.size o ((A.take k).filter fun x => !decide (x ∈ B)) ∧ Fr N0 w wr) (fun _ i _ => A.length - (intOf i).toNat)
  case atStart => exact ⟨0, Nat.zero_le _, by go_num, by rw [List.take_zero]; exact World.ownsRow_nil _ _ _ _, Fr.refl _ _⟩
  case round =>
    obtain ⟨k, hk, rfl, hrow, hfr⟩ := hrel
    by_cases hlt : k < A.length
    · obtain rfl := h3 (by omega)
      have hck := hfr.cell id (HC.out k hlt)
      have hts := congrArg (List.filter fun x => !decide (x ∈ B)) (take_succ A hlt)
      obtain ⟨x, hx⟩ : ∃ x, A[k] = x := ⟨_, rfl⟩
      rw [hx] at hck hts
      rw [List.filter_append] at hts
      have hwsz := hfr.size
      have hol : ((A.take k).filter fun x => !decide (x ∈ B)).length ≤ k := Nat.le_trans (List.length_filter_le _ _) (by rw [List.length_take]; omega)
      obtain ⟨O, hO⟩ : ∃ O, (A.take k).filter (fun x => !decide (x ∈ B)) = O := ⟨_, rfl⟩
      rw [hO] at hrow hts hol
      have hcall := HHAS.out wr hfr x
      have HTS := Lib.hid hts; have HR := Lib.hid hrow; have HF := Lib.hid hfr
      clear hts hrow hfr hO hx
      cases hm : (decide (x ∈ B)) with
      | true =>
        rw [hm] at hcall
        have hmx := Lib.hid hm
        clear hm
        go_wp2_with (go_at_call 17; refine hcall.mono ?_; rintro e w' ⟨rfl, rfl⟩)
        go_roundw
        case rel => exact ⟨k + 1, by omega, by go_num, by rw [HTS.out]; simpa [of_decide_eq_true hmx.out] using HR.out, HF.out⟩
        case measure => simp [intOf]; omega
      | false =>
        rw [hm] at hcall
        have hmx := Lib.hid hm
        clear hm
        obtain ⟨n0, hn0⟩ : ∃ n0, O.length = n0 := ⟨_, rfl⟩
        have hrow := HR.out
        simp only [Row] at hrow
        rw [hn0] at hrow hol
        have HRO := Lib.hid hrow; have HN0 := Lib.hid hn0
        clear hrow hn0 HR
        go_wp2_with (first
          | (go_at_call 17; refine hcall.mono ?_; rintro e w' ⟨rfl, rfl⟩)
          | (at_builtin; go_loud (refine wpList_append_lies _ rfl _ _ 22 rfl w.heap.size 23 i0 (.int .u64 0) 1 8 Try.underlying22 hi hz0 hz1 hz2 rfl (by decide) u5 n0 _ rfl (HRO.out.alloc _) ⟨wr.heap.size, 0, none⟩ 1 1 [.int .u64 x] rfl rfl (World.news_of_block (cs := #[.int .u64 x]) (t := 23) (fr := (0, 0)) (heap_alloc_new wr _)) (by simp [Value.oneCell']) (by omega) (by unfold maxLen; omega) (by omega) (by simp; omega) (wr.heap.size + 1) (by simp) ?_); intro g gc w1 hown hgrow hfresh hlt2))
        go_roundw
        case rel =>
          refine ⟨k + 1, by omega, by go_num, ?_, (HF.out.alloc _).grown hgrow fun q e => .inr (row_base HRO.out e)⟩
          rw [HTS.out, Row]
          have := HN0.out
          simpa [of_decide_eq_false hmx.out, this] using hown
        case measure => simp [intOf]; omega
    · obtain rfl : k = A.length := by omega
      rw [List.take_length] at hrow
      go_wp2
      go_ret
      exact ⟨_, rfl, hrow, hfr⟩

/-- A slice of slices of numbers. -/
def RowsAt (w : World) (b : Nat) (v : Value) (Xs : List (List Int)) : Prop :=
  ∃ a off cap, v = .slice a Xs.length cap ∧ Xs.length ≤ cap ∧ cap ≤ 9223372036854775807 ∧ (0 < Xs.length → a = some ⟨b, off, none⟩) ∧
    ∀ i (h : i < Xs.length), ∃ A C bi, w.cell? ⟨b, off + i, none⟩ = some (.slice A Xs[i].length C) ∧ Ints .u64 w bi (.slice A Xs[i].length C) Xs[i]
theorem RowsAt.fr0 {w w' : World} {b : Nat} {v : Value} {Xs : List (List Int)} (h : RowsAt w b v Xs) (hf : Fr N0 w w') : RowsAt w' b v Xs := by
  obtain ⟨a, off, cap, h1, h2, h3, h4, h5⟩ := h
  refine ⟨a, off, cap, h1, h2, h3, h4, fun i hi => ?_⟩
  obtain ⟨A, C, bi, h6, h7⟩ := h5 i hi
  exact ⟨A, C, bi, hf.cell id h6, h7.fr0 hf⟩

theorem flatten_take_succ (Xs : List (List Int)) {k : Nat} (h : k < Xs.length) : (Xs.take (k + 1)).flatten = (Xs.take k).flatten ++ Xs[k] := by
  rw [take_succ Xs h, List.flatten_append]; simp
theorem flatten_take_le (Xs : List (List Int)) (k : Nat) : (Xs.take k).flatten.length ≤ Xs.flatten.length := by
  conv => rhs; rw [← List.take_append_drop k Xs]
  rw [List.flatten_append, List.length_append]; omega

set_option maxHeartbeats 2000000 in
set_option maxRecDepth 100000 in
theorem ror_any (w : World) (b : Nat) (v : Value) (Xs : List (List Int)) (h : RowsAt w b v Xs) (hl : Xs.flatten.length ≤ 1000000) :
    Calls Try.prog 29 #[v] w fun e w' => ∃ v' b', e = .returned v' ∧ Ints .u64 w' b' v' (allOf Xs) ∧ Fr N0 w w' := by
  obtain ⟨a, off, cap, rfl, h1, h2, h3, h4⟩ := h
  have HC := Lib.hid h4; clear h4
  unfold allOf
  go_enter Try.func29, Try.ntmps29
  go_wp2
  go_loopw [3, 4] (fun o i wr => ∃ k : Nat, k ≤ Xs.length ∧ i = .int .i64 k ∧ wr.ownsRow w.heap.size 23 1 o (Xs.take k).flatten.length ((Xs.take k).flatten.map (Value.int .u64)) ∧ Fr N0 w wr) (fun _ i _ => Xs.length - (intOf i).toNat)
  case atStart => exact ⟨0, Nat.zero_le _, by go_num, by rw [List.take_zero]; exact World.ownsRow_nil _ _ _ _, Fr.refl _ _⟩
  case round =>
    obtain ⟨k, hk, rfl, hrow, hfr⟩ := hrel
    have hwsz := hfr.size
    by_cases hlt : k < Xs.length
    · obtain rfl := h3 (by omega)
      obtain ⟨A, C, bi, hck, hin⟩ := HC.out k hlt
      replace hck := hfr.cell id hck
      replace hin := hin.fr0 hfr
      have hts := flatten_take_succ Xs hlt
      have htl := flatten_take_le Xs (k + 1)
      obtain ⟨X, hX⟩ : ∃ x, Xs[k] = x := ⟨_, rfl⟩
      rw [hX] at hck hts hin
      obtain ⟨O, hO⟩ : ∃ O, (Xs.take k).flatten = O := ⟨_, rfl⟩
      rw [hO] at hrow hts
      rw [hts, List.length_append] at htl
      have HTS := Lib.hid hts; have HR := Lib.hid hrow; have HF := Lib.hid hfr; have HIN := Lib.hid hin
      clear hts hrow hfr hO hX hin
      go_wp2_with (at_builtin; go_loud (refine wpList_append_ints _ rfl _ _ rfl w.heap.size _ O rfl HR.out bi _ X rfl HIN.out (by omega) (by omega) ?_); intro v' w5 hown hgrow)
      go_roundw
      case rel => exact ⟨k + 1, by omega, by go_num, by rw [HTS.out]; exact hown, HF.out.grown hgrow fun q hq => .inr (HR.out.lt q hq).1⟩
      case measure => simp [intOf]; omega
    · obtain rfl : k = Xs.length := by omega
      rw [List.take_length] at hrow
      have hwf : ∀ x ∈ Xs.flatten, (Lit.int .u64 x).wf = true := fun x hx => by
        obtain ⟨L, hL, hxL⟩ := List.mem_flatten.1 hx
        obtain ⟨i, hi, rfl⟩ := List.getElem_of_mem hL
        obtain ⟨_, _, _, _, h7⟩ := HC.out i hi
        exact h7.wf x hxL
      obtain ⟨br, hir⟩ := row_ints hrow hwf
      have hcall := rof_any wr br _ _ hir (by omega)
      have HF := Lib.hid hfr; have HW := Lib.hid hwf
      clear hrow hfr hwf hir
      go_wp2_with (go_at_call 10; refine hcall.mono ?_; rintro e w1 ⟨v1, rfl, hr1, hf1⟩)
      go_ret
      obtain ⟨b1, hi1⟩ := row_ints hr1 (norm_wf HW.out)
      exact ⟨_, b1, rfl, hi1, HF.out.then0 hf1⟩

def rAnd : List (List Int) → List Int
  | [] => []
  | X :: R => X.filter fun x => R.all fun Y => decide (x ∈ Y)

theorem all_take_succ {R : List (List Int)} {m : Nat} (h : m < R.length) (x : Int) : ((R.take (m + 1)).all fun Y => decide (x ∈ Y)) = (((R.take m).all fun Y => decide (x ∈ Y)) && decide (x ∈ R[m])) := by
  rw [take_succ R h, List.all_append]; simp

set_option maxHeartbeats 4000000 in
set_option maxRecDepth 100000 in
theorem rand_any (w : World) (b : Nat) (v : Value) (Xs : List (List Int)) (h : RowsAt w b v Xs) (hl : Xs.flatten.length ≤ 1000000) :
    Calls Try.prog 27 #[v] w fun e w' => ∃ v' b', e = .returned v' ∧ Ints .u64 w' b' v' (rAnd Xs) ∧ Fr N0 w w' := by
  obtain ⟨i0, hi, hz0, hz1, hz2⟩ := info_parts infoU64
  obtain ⟨a, off, cap, rfl, h1, h2, h3, h4⟩ := h
  cases Xs with
  | nil =>
    clear h4
    go_enter Try.func27, Try.ntmps27
    go_wp2
    go_loopw [3, 4] (fun o i wr => o = .slice none 0 0 ∧ i = .int .i64 0 ∧ wr = w) (fun _ i _ => 0)
    case atStart => exact ⟨rfl, by go_num, rfl⟩
    case round =>
      obtain ⟨rfl, rfl, rfl⟩ := hrel
      go_wp2
      go_ret
      exact ⟨_, 0, rfl, Ints.nil _ _ _, Fr.refl _ _⟩
  | cons X R =>
    obtain rfl := h3 (by simp)
    obtain ⟨A0, C0, b0, hc0, hI0⟩ := h4 0 (by simp)
    have hc0 : ∀ W, Fr N0 w W → W.cell? ⟨b, off, none⟩ = some (.slice A0 X.length C0) := fun W hW => hW.cell id hc0
    have hcR : ∀ i (h : i < R.length), ∃ A C bi, w.cell? ⟨b, off + (i + 1), none⟩ = some (.slice A R[i].length C) ∧ Ints .u64 w bi (.slice A R[i].length C) R[i] := fun i h => h4 (i + 1) (by simp; omega)
    change Ints .u64 w b0 (.slice A0 X.length C0) X at hI0
    have hwf := hI0.wf
    have hxl : X.length ≤ 1000000 := flatten_le hl X (by simp)
    obtain ⟨a', off0, cap', e1, g1, g2, g3, g4, g5, g6⟩ := hI0
    injection e1 with e1 e2 e3
    subst e1; subst e3
    have HC0 := Lib.hid hc0; have HCR := Lib.hid hcR; have HX := Lib.hid g5
    clear hc0 hcR g4 g5 g6 h4 hl h3
    have hlen : (X :: R).length = R.length + 1 := rfl
    rw [hlen] at h1 ⊢
    clear hlen
    unfold rAnd
    go_enter Try.func27, Try.ntmps27
    go_wp2
    go_loopw [3, 4] (fun o i wr => ∃ k : Nat, k ≤ X.length ∧ i = .int .i64 k ∧ Row wr w.heap.size o ((X.take k).filter fun x => R.all fun Y => decide (x ∈ Y)) ∧ Fr N0 w wr) (fun _ i _ => X.length - (intOf i).toNat)
    case atStart => exact ⟨0, Nat.zero_le _, by go_num, by rw [List.take_zero]; exact World.ownsRow_nil _ _ _ _, Fr.refl _ _⟩
    case round =>
      obtain ⟨k, hk, rfl, hrow, hfr⟩ := hrel
      have hc0 := HC0.out wr hfr
      by_cases hlt : k < X.length
      · obtain rfl := g3 (by omega)
        have hck := hfr.cell id (HX.out k hlt)
        have hts := congrArg (List.filter fun x => R.all fun Y => decide (x ∈ Y)) (take_succ X hlt)
        obtain ⟨x, hx⟩ : ∃ x, X[k] = x := ⟨_, rfl⟩
        rw [hx] at hck hts
        rw [List.filter_append] at hts
        have hwsz := hfr.size
        have hol : ((X.take k).filter fun x => R.all fun Y => decide (x ∈ Y)).length ≤ k := Nat.le_trans (List.length_filter_le _ _) (by rw [List.length_take]; omega)
        obtain ⟨O, hO⟩ : ∃ O, (X.take k).filter (fun x => R.all fun Y => decide (x ∈ Y)) = O := ⟨_, rfl⟩
        rw [hO] at hrow hts hol
        have HTS := Lib.hid hts; have HR := Lib.hid hrow; have HF := Lib.hid hfr
        clear hts hrow hfr hO hx
        go_wp2
        clear hc0
        go_loopw [5, 6] (fun iv kv W => ∃ m : Nat, m ≤ R.length ∧ kv = .int .i64 ((m : Int) + 1) ∧ iv = .bool ((R.take m).all fun Y => decide (x ∈ Y)) ∧ Fr N0 wr W) (fun _ kv _ => R.length + 2 - (intOf kv).toNat)
        case atStart => exact ⟨0, Nat.zero_le _, by go_num, by simp, Fr.refl _ _⟩
        case round =>
          rename World => wq
          obtain ⟨m, hm, rfl, rfl, hfq⟩ := hrel
          have hfw := HF.out.then0 hfq
          have hc0 := HC0.out wq hfw
          by_cases hml : m < R.length
          · obtain ⟨AR, CR, bR, hcR, hIR⟩ := HCR.out m hml
            replace hcR := hfw.cell id hcR
            have hckq := hfq.cell id hck
            have hhas := fun n => (rhas_any (wq.drewN n) bR _ _ x ((hIR.fr0 hfw).fr0 ((Fr.refl _ _).drewN n))).mono fun e w' h => And.intro h.1 h.2.symm
            have hall := all_take_succ hml x
            obtain ⟨bt, hbt⟩ : ∃ bt, ((R.take m).all fun Y => decide (x ∈ Y)) = bt := ⟨_, rfl⟩
            obtain ⟨cm, hcm⟩ : ∃ cm, decide (x ∈ R[m]) = cm := ⟨_, rfl⟩
            rw [hbt, hcm] at hall
            simp only [hcm] at hhas
            rw [hbt]
            have HALL := Lib.hid hall
            clear hall hbt hcm hIR
            have HHAS := Lib.hid hhas
            have HFQ := Lib.hid hfq
            clear hhas hfq hfw
            cases bt with
            | true =>
              go_wp2
              go_quiet (first | (go_at_call 17; refine Calls.quiet_of_same (HHAS.out _)))
              go_wp2
              go_roundw
              case rel => exact ⟨m + 1, by omega, by go_num, by rw [HALL.out]; simp, HFQ.out.drewN _⟩
              case measure => simp [intOf]; omega
            | false =>
              go_wp2
              go_quiet (fail)
              go_wp2
              go_roundw
              case rel => exact ⟨m + 1, by omega, by go_num, by rw [HALL.out]; simp, HFQ.out.drewN _⟩
              case measure => simp [intOf]; omega
          · obtain rfl : m = R.length := by omega
            rw [List.take_length]
            obtain ⟨bt, hbt⟩ : ∃ bt, (R.all fun Y => decide (x ∈ Y)) = bt := ⟨_, rfl⟩
            rw [hbt]
            have hts := HTS.out
            simp only [List.filter_cons, List.filter_nil, hbt] at hts
            have HTS2 := Lib.hid hts
            have hckq := hfq.cell id hck
            have hfw2 := HF.out.then0 hfq
            have hwsq := hfq.size
            have HFW := Lib.hid hfw2; have HRQ := Lib.hid (row_fr0 HR.out hfq)
            clear hts hbt hfw hfq HTS HR HF hck hfw2
            cases bt with
            | true =>
              simp only [if_true] at HTS2
              obtain ⟨n0, hn0⟩ : ∃ n0, O.length = n0 := ⟨_, rfl⟩
              have hrow := HRQ.out
              rw [hn0] at hrow hol
              have HRO := Lib.hid hrow; have HN0 := Lib.hid hn0
              clear hrow hn0 HRQ
              go_wp2_with (at_builtin; go_loud (refine wpList_append_lies _ rfl _ _ 22 rfl w.heap.size 23 i0 (.int .u64 0) 1 8 Try.underlying22 hi hz0 hz1 hz2 rfl (by decide) u3 n0 _ rfl (HRO.out.alloc _) ⟨wq.heap.size, 0, none⟩ 1 1 [.int .u64 x] rfl rfl (World.news_of_block (cs := #[.int .u64 x]) (t := 23) (fr := (0, 0)) (heap_alloc_new wq _)) (by simp [Value.oneCell']) (by omega) (by unfold maxLen; omega) (by omega) (by simp; omega) (wq.heap.size + 1) (by simp) ?_); intro g gc w1 hown hgrow hfresh hlt2)
              go_roundw
              case rel =>
                refine ⟨k + 1, by omega, by go_num, ?_, (HFW.out.alloc _).grown hgrow fun q e => .inr (row_base HRO.out e)⟩
                rw [HTS2.out, Row]
                have := HN0.out
                simpa [this] using hown
              case measure => simp [intOf]; omega
            | false =>
              simp only [Bool.false_eq_true, if_false, List.append_nil] at HTS2
              go_wp2
              go_roundw
              case rel => exact ⟨k + 1, by omega, by go_num, by rw [HTS2.out]; exact HRQ.out, HFW.out⟩
              case measure => simp [intOf]; omega
      · obtain rfl : k = X.length := by omega
        rw [List.take_length] at hrow
        have hwL : ∀ x ∈ X.filter (fun x => R.all fun Y => decide (x ∈ Y)), (Lit.int .u64 x).wf = true := fun x hx => hwf x (List.mem_filter.1 hx).1
        obtain ⟨br, hir⟩ := row_ints hrow hwL
        have HIR := Lib.hid hir; have HFR := Lib.hid hfr
        clear hrow hir hfr hwL
        go_wp2
        go_ret
        exact ⟨_, br, rfl, HIR.out, HFR.out⟩

end Go.Proofs.Ytldboadcglofaaa
