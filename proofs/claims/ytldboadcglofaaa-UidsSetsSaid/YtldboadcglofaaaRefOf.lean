/- The document's Of, on plain lists: it answers norm. Condition: at most 2^44 numbers. -/
import Derived.Test.YtldboadcglofaaaRef
namespace Go.Proofs.Ytldboadcglofaaa
open Go.RowKit Go.Shelf
attribute [local go_sem] Oper.semAt_some
set_option linter.unusedVariables false
set_option linter.unusedSimpArgs false

theorem sorted_ext : ∀ {a b : List Int}, a.Pairwise (· < ·) → b.Pairwise (· < ·) → (∀ x, x ∈ a ↔ x ∈ b) → a = b
  | [], [], _, _, _ => rfl
  | [], y :: b, _, _, h => by have := (h y).2 (List.mem_cons_self ..); simp at this
  | x :: a, [], _, _, h => by have := (h x).1 (List.mem_cons_self ..); simp at this
  | x :: a, y :: b, ha, hb, h => by
    rw [List.pairwise_cons] at ha hb
    have hxy : x = y := by
      have h1 := (h x).1 (List.mem_cons_self ..)
      have h2 := (h y).2 (List.mem_cons_self ..)
      simp only [List.mem_cons] at h1 h2
      rcases h1 with h1 | h1
      · exact h1
      · rcases h2 with h2 | h2
        · exact h2.symm
        · have := ha.1 _ h2; have := hb.1 _ h1; omega
    subst hxy
    have : a = b := sorted_ext ha.2 hb.2 fun z => by
      have hz := h z
      simp only [List.mem_cons] at hz
      constructor
      · intro hm
        rcases hz.1 (.inr hm) with e | e
        · have := ha.1 _ hm; omega
        · exact e
      · intro hm
        rcases hz.2 (.inr hm) with e | e
        · have := hb.1 _ hm; omega
        · exact e
    rw [this]

theorem norm_nil : norm [] = [] := (sorted_ext (norm_sorted []) List.Pairwise.nil fun x => by simp [norm_mem])

theorem norm_unique {xs ys : List Int} (h : ys.Pairwise (· < ·)) (hm : ∀ x, x ∈ ys ↔ x ∈ xs ∧ x ≠ 0) : ys = norm xs :=
  sorted_ext h (norm_sorted xs) fun x => by rw [hm, norm_mem]

theorem norm_skip {xs : List Int} {u : Int} (h : u = 0 ∨ u ∈ norm xs) : norm (xs ++ [u]) = norm xs := by
  refine (norm_unique (norm_sorted xs) fun x => ?_).symm
  rw [norm_mem]
  simp only [List.mem_append, List.mem_singleton]
  constructor
  · rintro ⟨h1, h2⟩; exact ⟨.inl h1, h2⟩
  · rintro ⟨h1 | h1, h2⟩
    · exact ⟨h1, h2⟩
    · subst h1
      rcases h with h | h
      · exact absurd h h2
      · exact ⟨((norm_mem _ _).1 h).1, h2⟩

theorem norm_put {xs : List Int} {u : Int} (j : Nat) (h0 : u ≠ 0) (hA : ∀ x ∈ (norm xs).take j, x < u) (hB : ∀ x ∈ (norm xs).drop j, u < x) :
    (norm xs).take j ++ u :: (norm xs).drop j = norm (xs ++ [u]) := by
  have hs := norm_sorted xs
  rw [← List.take_append_drop j (norm xs), List.pairwise_append] at hs
  refine norm_unique ?_ fun x => ?_
  · rw [List.pairwise_append]
    refine ⟨hs.1, ?_, fun a ha b hb => ?_⟩
    · rw [List.pairwise_cons]; exact ⟨hB, hs.2.1⟩
    · simp only [List.mem_cons] at hb
      rcases hb with rfl | hb
      · exact hA a ha
      · exact hs.2.2 a ha b hb
  · have hm : x ∈ norm xs ↔ x ∈ (norm xs).take j ∨ x ∈ (norm xs).drop j := by
      rw [← List.mem_append, List.take_append_drop]
    have hn := norm_mem xs x
    simp only [List.mem_append, List.mem_cons, List.mem_singleton]
    by_cases hx : x = u
    · subst hx; simp [h0]
    · simp only [hx, false_or, or_false, List.not_mem_nil]
      rw [← hm, hn]

theorem norm_wf {xs : List Int} (h : ∀ x ∈ xs, (Lit.int .u64 x).wf = true) : ∀ x ∈ norm xs, (Lit.int .u64 x).wf = true := fun x hx => h x ((norm_mem _ _).1 hx).1

theorem set_mid {ys O : List Int} {n j : Nat} (u : Int) (hl : ys.length = n + 1) (hj : j ≤ n) (ht : ys.take j = O.take j) (hd : ys.drop (j + 1) = O.drop j) : ys.set j u = O.take j ++ u :: O.drop j := by
  rw [← ht, ← hd, List.set_eq_take_append_cons_drop, if_pos (by omega)]

theorem below_all {O : List Int} {m : Nat} {u : Int} (hs : O.Pairwise (· < ·)) (hm : m < O.length) (h : O[m] < u) : ∀ x ∈ O.take (m + 1), x < u := by
  intro x hx
  obtain ⟨i, hi, rfl⟩ := List.mem_take_iff_getElem.1 hx
  rcases Nat.lt_or_ge i m with h1 | h1
  · have := (List.pairwise_iff_getElem.1 hs) i m (by omega) hm h1; omega
  · have : i = m := by omega
    subst this; exact h

theorem row_base {w : World} {base n k : Nat} {v : Value} {vs : List Value} (h : w.ownsRow base 23 1 v n vs) (hk : v.ownBlock = some k) : base ≤ k := by
  rcases h.2 with ⟨hv, h0⟩ | ⟨g, cap, cur, hv, hb, _⟩
  · rw [hv] at hk; simp [Value.ownBlock] at hk
  · rw [hv] at hk; simp [Value.ownBlock] at hk; omega

set_option maxHeartbeats 2000000 in
set_option maxRecDepth 100000 in
theorem rof_any (w : World) (b : Nat) (v : Value) (xs : List Int) (h : Ints .u64 w b v xs) (hl : xs.length ≤ 17592186044416) :
    Calls Try.prog 10 #[v] w fun e w' => ∃ v', e = .returned v' ∧ Row w' w.heap.size v' (norm xs) ∧ Fr N0 w w' := by
  obtain ⟨i0, hi, hz0, hz1, hz2⟩ := info_parts infoU64
  have hwf := h.wf
  obtain ⟨a, off, cap, rfl, h1, h2, h3, h4, h5, h6⟩ := h
  have HC := Lib.hid h5; have HW := Lib.hid hwf; clear h5 h6 h4 hwf
  go_enter Try.func10, Try.ntmps10
  go_wp2
  go_loopw [3, 4] (fun (o i : Value) wr => ∃ k : Nat, k ≤ xs.length ∧ i = .int .i64 k ∧ Row wr w.heap.size o (norm (xs.take k)) ∧ Fr N0 w wr) (fun _ i _ => xs.length - (intOf i).toNat)
  case atStart => exact ⟨0, Nat.zero_le _, by go_num, by rw [List.take_zero, norm_nil]; exact World.ownsRow_nil _ _ _ _, Fr.refl _ _⟩
  case round =>
    obtain ⟨k, hk, rfl, hrow, hfr⟩ := hrel
    by_cases hlt : k < xs.length
    · obtain rfl := h3 (by omega)
      have hck := hfr.cell id (HC.out k hlt)
      have hck0 := HC.out k hlt
      have hts := take_succ xs hlt
      have hxw := HW.out _ (List.getElem_mem hlt)
      obtain ⟨u, hu⟩ : ∃ x, xs[k] = x := ⟨_, rfl⟩
      rw [hu] at hck hts hxw hck0
      have HCK := Lib.hid hck0
      clear hck0
      have hu0 : 0 ≤ u := by simp only [Lit.wf, Bool.and_eq_true, decide_eq_true_eq, show IntKind.u64.min = 0 from rfl] at hxw; omega
      have HTS := Lib.hid hts; have HR := Lib.hid hrow; have HF := Lib.hid hfr
      clear hts hrow hfr hxw
      cases hpos : (decide ((0 : Int) < u)) with
      | false =>
        have hz : u = 0 := by have := of_decide_eq_false hpos; omega
        have hsk := norm_skip (xs := xs.take k) (.inl hz)
        rw [← HTS.out] at hsk
        have HK := Lib.hid hsk
        clear hsk hz
        go_wp2
        go_roundw
        case rel => exact ⟨k + 1, by omega, by go_num, by rw [HK.out]; exact HR.out, HF.out⟩
        case measure => simp [intOf]; omega
      | true =>
        have hnz : u ≠ 0 := by have := of_decide_eq_true hpos; omega
        obtain ⟨bo, hio⟩ := row_ints HR.out (norm_wf fun x hx => HW.out x (List.mem_of_mem_take hx))
        have hcall := rhas_any wr bo _ _ u hio
        have hnl : (norm (xs.take k)).length ≤ k := Nat.le_trans (norm_length _) (by rw [List.length_take]; omega)
        obtain ⟨ao, co, ho⟩ := row_form HR.out
        have hln : ∀ (ty : TypeId) (W : World), (Builtin.len_ #[22] ty #[u3]).run Try.prog W = .ok (.int .i64 ((norm (xs.take k)).length : Int)) W := fun ty W => by rw [ho]; rfl
        clear ho
        cases hm : (decide (u ∈ norm (xs.take k))) with
        | true =>
          rw [hm] at hcall
          clear hln
          have hsk := norm_skip (xs := xs.take k) (.inr (of_decide_eq_true hm))
          rw [← HTS.out] at hsk
          have HK := Lib.hid hsk
          clear hsk hm hio
          go_wp2_with (go_at_call 17; refine hcall.mono ?_; rintro e w' ⟨rfl, rfl⟩)
          go_roundw
          case rel => exact ⟨k + 1, by omega, by go_num, by rw [HK.out]; exact HR.out, HF.out⟩
          case measure => simp [intOf]; omega
        | false =>
          rw [hm] at hcall
          have hnm := of_decide_eq_false hm
          have hput := fun j => norm_put (xs := xs.take k) (u := u) j hnz
          have hsrt := norm_sorted (xs.take k)
          rw [← HTS.out] at hput
          obtain ⟨O, hO⟩ : ∃ O, norm (xs.take k) = O := ⟨_, rfl⟩
          obtain ⟨n0, hn0⟩ : ∃ n0, O.length = n0 := ⟨_, rfl⟩
          have hrow := HR.out
          rw [hO] at hput hnm hnl hrow hsrt hln
          simp only [Row] at hrow
          rw [hn0] at hnl hrow hln
          have HRO := Lib.hid hrow; have HNM := Lib.hid hnm; have HP := Lib.hid hput; have HN0 := Lib.hid hn0; have HSR := Lib.hid hsrt
          clear hnm hput hm hio HR hO hn0 hrow HTS hsrt
          have hwsz := HF.out.size
          go_wp2_with (first
            | (go_at_call 17; refine hcall.mono ?_; rintro e w' ⟨rfl, rfl⟩)
            | (at_builtin; go_loud (refine wpList_append_lies _ rfl _ _ 22 rfl w.heap.size 23 i0 (.int .u64 0) 1 8 Try.underlying22 hi hz0 hz1 hz2 rfl (by decide) u3 n0 _ rfl (HRO.out.alloc _) ⟨wr.heap.size, 0, none⟩ 1 1 [.int .u64 u] rfl rfl (World.news_of_block (cs := #[.int .u64 u]) (t := 23) (fr := (0, 0)) (heap_alloc_new wr _)) (by simp [Value.oneCell']) (by omega) (by unfold maxLen; omega) (by omega) (by simp; omega) (wr.heap.size + 1) (by simp) ?_); intro g gc w1 hown hgrow hfresh hlt2))
          have hf1 : Fr N0 w w1 := (HF.out.alloc _).grown hgrow fun q e => .inr (row_base HRO.out e)
          have hol : O.length = n0 := HN0.out
          have hrow1 : w1.ownsRow w.heap.size 23 1 (.slice (some ⟨g, 0, none⟩) (n0 + 1) gc) (n0 + 1) ((O ++ [u]).map (Value.int .u64)) := by simpa using hown
          have hgb : w.heap.size ≤ g := row_base hrow1 rfl
          have hgcap : n0 + 1 ≤ gc := by
            rcases hrow1.2 with ⟨h0, _⟩ | ⟨g', cap', cur, h0, hb, hg, hnc, hcm, hcs, htake⟩
            · simp at h0
            · simp at h0; obtain ⟨rfl, rfl⟩ := h0; exact hnc
          have H1 := Lib.hid hf1; have HR1 := Lib.hid hrow1
          clear hck hf1 hrow1 hown hgrow hfresh hcall hln HRO HF hlt2 hwsz hol
          have hnl2 : n0 ≤ 17592186044416 := by omega
          go_loopw [5] (fun kv wx => ∃ (j : Nat) (ys : List Int), j ≤ n0 ∧ kv = .int .i64 j ∧ Hid (ys.length = n0 + 1 ∧ ys.take j = O.take j ∧ ys.drop (j + 1) = O.drop j ∧ ∀ x ∈ O.drop j, u < x) ∧
              wx.ownsRow w.heap.size 23 1 (.slice (some ⟨g, 0, none⟩) (n0 + 1) gc) (n0 + 1) (ys.map (Value.int .u64)) ∧ Fr N0 w wx) (fun kv _ => (intOf kv).toNat)
          case atStart =>
            have := HN0.out
            refine ⟨n0, O ++ [u], Nat.le_refl _, rfl, ⟨by simp [this], ?_, ?_, ?_⟩, HR1.out, H1.out⟩
            · rw [List.take_append_of_le_length (by omega)]
            · rw [List.drop_of_length_le (by simp; omega), List.drop_of_length_le (by omega)]
            · rw [List.drop_of_length_le (by omega)]; simp
          case round =>
            obtain ⟨j, ys, hj, rfl, hy, hrow, hfr⟩ := hrel
            have hck := hfr.cell id HCK.out
            have e2 : ∃ v2, wr.cell? ⟨g, j, none⟩ = some v2 := ⟨_, by rw [hrow.cellAt _ (by omega)]; exact List.getElem?_eq_getElem (by simp; have := hy.out.1; omega)⟩
            obtain ⟨v2, e2⟩ := e2
            have f2 := hrow.frozenAt j
            have hend : (∀ x ∈ O.take j, x < u) → ∀ W, Fr N0 wr W → (W.setCell ⟨g, j, none⟩ (.int .u64 u)).ownsRow w.heap.size 23 1 (.slice (some ⟨g, 0, none⟩) (n0 + 1) gc) (norm (xs.take (k + 1))).length ((norm (xs.take (k + 1))).map (Value.int .u64)) ∧ Fr N0 w (W.setCell ⟨g, j, none⟩ (.int .u64 u)) := by
              intro ha W hW
              have hn1 := HP.out j ha hy.out.2.2.2
              have hl1 : (norm (xs.take (k + 1))).length = n0 + 1 := by
                rw [← hn1]; have := HN0.out; simp; omega
              refine ⟨?_, (hfr.trans hW fun _ h => .inl h).setCell (.inr hgb) _⟩
              have hr2 := ((ownsRow_same hrow fun q hq => hW.at id (lt_of_block (ownsRow_elem hrow hq).choose_spec)).stored j (.int .u64 u)).1
              rw [hl1, ← hn1, ← set_mid u hy.out.1 hj hy.out.2.1 hy.out.2.2.1]
              simpa [List.map_set] using hr2
            have HE := Lib.hid hend
            clear hend
            by_cases hj0 : 0 < j
            · obtain ⟨m, rfl⟩ : ∃ m, j = m + 1 := ⟨j - 1, by omega⟩
              have hmO : m < O.length := by rw [HN0.out]; omega
              have hmy : m < ys.length := by rw [hy.out.1]; omega
              have hym : ys[m] = O[m] := by
                have := congrArg (fun l => l[m]?) hy.out.2.1
                simpa [List.getElem?_take, hmO, hmy] using this
              have e1 : wr.cell? ⟨g, m, none⟩ = some (.int .u64 O[m]) := by
                rw [hrow.cellAt _ (by omega), List.getElem?_map, List.getElem?_eq_getElem hmy, hym]; rfl
              have hall := below_all (u := u) HSR.out hmO
              have hmem : O[m] ∈ O := List.getElem_mem hmO
              have hdrop : O.drop m = O[m] :: O.drop (m + 1) := List.drop_eq_getElem_cons hmO
              obtain ⟨y, hyy⟩ : ∃ y, O[m] = y := ⟨_, rfl⟩
              rw [hyy] at e1 hall hmem hdrop
              have hwr : IntKind.i64.wrap (m : Int) = (m : Int) := IntWalk.i64_in _ (by omega)
              have hb0 : (m : Int) < (n0 : Int) + 1 := by omega
              have HA := Lib.hid hall; have HM := Lib.hid hmem; have HD := Lib.hid hdrop; have HRW := Lib.hid hrow; have HFR := Lib.hid hfr
              clear hall hmem hdrop hyy hym hmy hmO hrow hfr
              have hb1 : (m : Int) + 1 < (n0 : Int) + 1 := by omega
              cases hlt3 : (decide (u < y)) with
              | true =>
                clear HE
                go_wp2
                go_quiet (fail)
                go_wp2
                go_roundw
                case rel =>
                  obtain ⟨hs1, hs2⟩ := (ownsRow_same (w' := wr.drewN nq) HRW.out (fun _ _ => rfl)).stored (m + 1) (.int .u64 y)
                  refine ⟨m, ys.set (m + 1) y, by omega, by go_num, ⟨by simpa using hy.out.1, ?_, ?_, ?_⟩, by simpa [List.map_set] using hs1, (HFR.out.drewN _).setCell (p := ⟨g, m + 1, none⟩) (.inr hgb) _⟩
                  · rw [take_set_ge _ _ _ _ (by omega)]
                    have := congrArg (fun l => l.take m) hy.out.2.1
                    simpa [List.take_take] using this
                  · rw [HD.out, ← hy.out.2.2.1, List.drop_eq_getElem_cons (by simp; have := hy.out.1; omega), List.getElem_set_self, List.drop_set_of_lt (by omega)]
                  · intro x hx
                    rw [HD.out] at hx
                    rcases List.mem_cons.1 hx with h | h
                    · rw [h]; exact of_decide_eq_true hlt3
                    · exact hy.out.2.2.2 x h
                case measure => simp [intOf]
              | false =>
                have hyu : y < u := by
                  have h1 := of_decide_eq_false hlt3
                  have h2 : y ≠ u := fun e => HNM.out (by rw [← e]; exact HM.out)
                  omega
                have hA := HA.out hyu
                have hA' := Lib.hid hA
                clear hA hyu
                go_wp2
                go_quiet (fail)
                clear hwr
                go_wp2
                go_roundw
                case rel =>
                  have hq := HE.out hA'.out (wr.drewN nq) ((Fr.refl _ _).drewN _)
                  exact ⟨k + 1, by omega, by go_num, hq.1, hq.2⟩
                case measure => simp [intOf]; omega
            · have hjz : j = 0 := by omega
              have hq := fun nq : Nat => HE.out (by rw [hjz]; simp) (wr.drewN nq) ((Fr.refl _ _).drewN _)
              have hj2 : ¬ (0 : Int) < (j : Int) := by omega
              have hj3 : (j : Int) < (n0 : Int) + 1 := by omega
              clear hjz
              have HQ := Lib.hid hq
              clear hq HE hrow hfr
              go_wp2
              go_quiet (fail)
              go_wp2
              go_roundw
              case rel => exact ⟨k + 1, by omega, by go_num, (HQ.out _).1, (HQ.out _).2⟩
              case measure => simp [intOf]; omega
    · obtain rfl : k = xs.length := by omega
      have HR := Lib.hid hrow; have HF := Lib.hid hfr
      clear hrow hfr
      go_wp2
      go_ret
      refine ⟨_, rfl, ?_, HF.out⟩
      have := HR.out
      rwa [List.take_length] at this

end Go.Proofs.Ytldboadcglofaaa
