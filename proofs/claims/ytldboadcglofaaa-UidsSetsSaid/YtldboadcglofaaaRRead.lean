/- The document's list out of bytes: tesseraref16.Read. Condition: at most 2^40 bytes. -/
import Derived.Test.YtldboadcglofaaaRNum
import Derived.Test.YtldboadcglofaaaRead
namespace Go.Proofs.Ytldboadcglofaaa
open Go.RowKit Go.Shelf
attribute [local go_sem] Oper.semAt_some
set_option linter.unusedVariables false
set_option linter.unusedSimpArgs false

def rreadPost (r : Option (List Int)) (e : Ending) (w' : World) : Prop :=
  match r with
  | some l => ∃ v, e = .returned (.tuple #[v, .int .i64 0]) ∧ ∃ b, Ints .u64 w' b v l
  | none => e = .returned (.tuple #[.slice none 0 0, .int .i64 160])

theorem fr_drewN {W W2 : World} {m : Nat} (h : W.drewN m = W2) : Fr N0 W W2 := by rw [← h]; exact (Fr.refl _ _).drewN _
theorem row_fr0 {w w' : World} {base n : Nat} {v : Value} {xs : List Value} (h : w.ownsRow base 23 1 v n xs) (hf : Fr N0 w w') : w'.ownsRow base 23 1 v n xs :=
  ownsRow_same h fun q hq => hf.at id (lt_of_block (ownsRow_elem h hq).choose_spec)

set_option maxHeartbeats 2000000 in
set_option maxRecDepth 100000 in
theorem rread_any (s : ByteArray) (hs : s.size ≤ 1099511627776) (w : World) :
    Calls Try.prog 22 #[.string s] w fun e w' => rreadPost (rdList s) e w' ∧ Fr N0 w w' := by
  have hc := rreadNum_any s w
  obtain ⟨i0, hi, hz0, hz1, hz2⟩ := info_parts infoU64
  cases hrd : rd s with
  | none =>
    rw [hrd] at hc
    have hnone : rdList s = none := by unfold rdList; rw [hrd]
    have HN := Lib.hid hnone
    clear hnone hrd
    go_enter Try.func22, Try.ntmps22
    go_wp2_with (go_at_call 47; refine hc.mono ?_; rintro e w' ⟨⟨er, her, rfl⟩, m, rfl⟩; have her' : (er != 0) = true := by simpa using her)
    go_ret2
    exact ⟨by rw [HN.out]; rfl, (Fr.refl _ _).drewN _⟩
  | some p =>
    obtain ⟨n, t⟩ := p
    rw [hrd] at hc
    go_enter Try.func22, Try.ntmps22
    go_wp2_with (go_at_call 47; refine hc.mono ?_; rintro e w' ⟨h1, m, rfl⟩; obtain rfl := (show e = _ from h1))
    have hf0 : Fr N0 w (w.drewN m) := (Fr.refl _ _).drewN _
    have ht := rd_size hrd
    have hn := rd_lt hrd
    go_loopw [5, 6, 7, 8] (fun sv ev lv iv W => ∃ (k : Nat) (l : List Int) (r : ByteArray), sv = .string r ∧ ev = .int .i64 0 ∧ iv = .int .u64 (k : Int) ∧
        k ≤ n ∧ l.length = k ∧ k + r.size ≤ 1099511627776 ∧ Hid (rdMore (n - k) l r = rdMore n [] t) ∧ (∀ x ∈ l, 0 < x ∧ x < 18446744073709551616) ∧
        W.ownsRow w.heap.size 23 1 lv k (l.map (Value.int .u64)) ∧ Fr N0 w W) (fun _ _ _ iv _ => n - (intOf iv).toNat)
    case atStart => exact ⟨0, [], t, rfl, rfl, rfl, Nat.zero_le _, rfl, by omega, rfl, by simp, World.ownsRow_nil _ _ _ _, hf0⟩
    case round =>
      rename World => W1
      obtain ⟨k, l, r, rfl, rfl, rfl, hk, hlk, hsz, hrm, hlp, hrow, hfr⟩ := hrel
      have hla0 : 0 ≤ lastOf l ∧ lastOf l < 18446744073709551616 := last_bounds hlp
      by_cases hkn : k < n
      · obtain ⟨j, hj⟩ : ∃ j, n - k = j + 1 := ⟨n - k - 1, by omega⟩
        rw [hj] at hrm
        have hrm' := hrm.out
        rw [rdMore] at hrm'
        have hki : (k : Int) < (n : Int) := by omega
        have hcall := rreadNum_any r W1
        cases hr : rd r with
        | none =>
          rw [hr] at hrm' hcall
          have hnone : rdList s = none := by unfold rdList; rw [hrd]; simp only [← hrm']
          have HN := Lib.hid hnone; have HF := Lib.hid hfr
          clear hrm hrm' hnone hlp hrow hfr hrd
          go_wp2_with (go_at_call 47; refine hcall.mono ?_; rintro e w' ⟨⟨er, her, rfl⟩, m2, rfl⟩; have her' : (er != 0) = true := by simpa using her)
          go_ret2
          exact ⟨by rw [HN.out]; rfl, HF.out.drewN _⟩
        | some q =>
          obtain ⟨x, r'⟩ := q
          rw [hr] at hrm' hcall
          have hx := rd_lt hr
          have hr' := rd_size hr
          obtain ⟨u, hu⟩ : ∃ u, nextOf l x = u := ⟨_, rfl⟩
          have hub : 0 ≤ u ∧ u < 18446744073709551616 := by rw [← hu]; unfold nextOf; split <;> omega
          simp only [hu] at hrm'
          obtain ⟨la, hla⟩ : ∃ la, lastOf l = la := ⟨_, rfl⟩
          rw [hla] at hla0 hrm'
          have hun : nextOf l x = if l.length % 32 = 0 then (x : Int) else ((x : Int) + la) % 18446744073709551616 := by unfold nextOf; rw [hla]
          rw [hu, hlk] at hun
          have hstep : (u ≤ la → rdList s = none) := by
            intro hle
            rw [if_pos hle] at hrm'
            unfold rdList; rw [hrd]; simp only [← hrm']
          have hgo : ¬ u ≤ la → rdMore j (l ++ [u]) r' = rdMore n [] t := fun hlt => by rw [if_neg hlt] at hrm'; exact hrm'
          have hnew : ∀ W3 g gc, ¬ u ≤ la → Fr N0 w W3 → W3.ownsRow w.heap.size 23 1 (.slice (some ⟨g, 0, none⟩) (k + 1) gc) (k + 1) (l.map (Value.int .u64) ++ [.int .u64 u]) →
              ∃ (k' : Nat) (l' : List Int) (r2 : ByteArray), Value.string r' = .string r2 ∧ Value.int .i64 0 = .int .i64 0 ∧ Value.int .u64 ((k : Int) + 1) = .int .u64 (k' : Int) ∧
              k' ≤ n ∧ l'.length = k' ∧ k' + r2.size ≤ 1099511627776 ∧ Hid (rdMore (n - k') l' r2 = rdMore n [] t) ∧ (∀ x ∈ l', 0 < x ∧ x < 18446744073709551616) ∧
              W3.ownsRow w.heap.size 23 1 (.slice (some ⟨g, 0, none⟩) (k + 1) gc) k' (l'.map (Value.int .u64)) ∧ Fr N0 w W3 := fun W3 g gc hle hf3 ho => by
            refine ⟨k + 1, l ++ [u], r', rfl, rfl, by go_num, by omega, by simp [hlk], by omega, ?_, ?_, by simpa using ho, hf3⟩
            · show rdMore (n - (k + 1)) (l ++ [u]) r' = rdMore n [] t
              rw [show n - (k + 1) = j by omega]; exact hgo hle
            · intro y hy
              rcases List.mem_append.1 hy with h | h
              · exact hlp y h
              · simp at h; omega
          have HST := Lib.hid hstep; have HF := Lib.hid hfr; have HNEW := Lib.hid hnew; have HRO := Lib.hid hrow
          obtain ⟨hl0, hl1⟩ := hla0
          obtain ⟨hu0, hu1⟩ := hub
          have hown0 : ∀ q, u7.ownBlock = some q → w.heap.size ≤ q := fun q hq => (HRO.out.lt q hq).1
          have HOW := Lib.hid hown0
          have hrp : 0 < k → ∃ g cap, u7 = .slice (some ⟨g, 0, none⟩) k cap ∧ W1.cell? ⟨g, k - 1, none⟩ = some (.int .u64 la) := fun h0 => by
            rcases HRO.out.2 with ⟨_, h⟩ | ⟨g, cap, cur, rfl, _⟩
            · omega
            · refine ⟨g, cap, rfl, ?_⟩
              rw [HRO.out.cellAt (k - 1) (by omega), List.getElem?_map]
              have : l[k - 1]? = some la := by
                rw [← hla, lastOf, List.getLast?_eq_getElem?, hlk, List.getElem?_eq_getElem (by omega)]; rfl
              rw [this]; rfl
          have HRP := Lib.hid hrp
          clear hrm hrm' hlp hrow hfr hstep hgo hnew hrd hr hu hf0 hown0 hrp
          cases k with
          | zero =>
            obtain rfl : l = [] := List.eq_nil_of_length_eq_zero hlk
            have h0 : la = 0 := by rw [← hla]; rfl
            have hux : u = (x : Int) := by rw [hun]; rfl
            clear hun hla
            subst h0 hux
            by_cases hle : (x : Int) ≤ 0
            · have hx0 : ((x : Int) == 0) = true := by simp; omega
              have HN := Lib.hid (HST.out hle)
              go_wp2_with (go_at_call 47; refine hcall.mono ?_; rintro e w' ⟨h1, m2, rfl⟩; obtain rfl := (show e = _ from h1))
              go_ret2
              exact ⟨by rw [HN.out]; rfl, HF.out.drewN _⟩
            · have hx0 : ((x : Int) == 0) = false := by simp; omega
              go_wp2_with (first
                | (go_at_call 47; refine hcall.mono ?_; rintro e W2 ⟨h1, m2, hw2⟩; obtain rfl := (show e = _ from h1); have hro2 := Lib.hid (row_fr0 HRO.out (fr_drewN hw2)); have hz3 := (HF.out.then0 (fr_drewN hw2)).size)
                | (at_builtin; have hz4 := hz3; go_loud (refine wpList_append_lies _ rfl _ _ 22 rfl w.heap.size 23 i0 (.int .u64 0) 1 8 Try.underlying22 hi hz0 hz1 hz2 rfl (by decide) u7 0 _ rfl (hro2.out.alloc _) ⟨W2.heap.size, 0, none⟩ 1 1 [.int .u64 (x : Int)] rfl rfl (World.news_of_block (cs := #[.int .u64 (x : Int)]) (t := 23) (fr := (0, 0)) (heap_alloc_new W2 _)) (by simp [Value.oneCell']) (by omega) (by unfold maxLen; omega) (by omega) (by simp; omega) (W2.heap.size + 1) (by simp) ?_); intro g gc W3 hown hgrow hfresh hlt2))
              go_roundw
              case rel =>
                obtain ⟨k', l', r2, e1, _, e3, rest⟩ := HNEW.out W3 g gc hle ((HF.out.then0 (fr_drewN hw2)).alloc _ |>.grown hgrow fun q hq => .inr (HOW.out q hq)) hown
                exact ⟨k', l', r2, e1, rfl, by simpa using e3, rest⟩
              case measure => simp [intOf]; omega
          | succ m =>
            obtain ⟨g0, cap, rfl, hcell⟩ := HRP.out (by omega)
            simp only [Nat.add_sub_cancel] at hcell
            have b1 : (0 : Int) ≤ (m : Int) := by omega
            have b2 : (m : Int) < (m : Int) + 1 := by omega
            cases h32 : (((m : Int) + 1) % 32 != 0) with
            | true =>
              have huw : IntKind.u64.wrap (la + (x : Int)) = u := by
                rw [IntKind.wrap_u64, hun, if_neg]
                · rw [Int.add_comm]
                · simp at h32; omega
              clear hun
              by_cases hle : u ≤ la
              · have HN := Lib.hid (HST.out hle)
                by_cases hu00 : u = 0
                · have hx0 : (u == 0) = true := by simp; omega
                  go_wp2_with ((go_at_call 47; refine hcall.mono ?_; rintro e W2 ⟨h1, m2, hw2⟩; obtain rfl := (show e = _ from h1); have hro2 := Lib.hid (row_fr0 HRO.out (fr_drewN hw2)); have hz3 := (HF.out.then0 (fr_drewN hw2)).size; have hcell2 := (fr_drewN hw2).cell id hcell))
                  go_ret2
                  exact ⟨by rw [HN.out]; rfl, HF.out.then0 (fr_drewN hw2)⟩
                · have hx0 : (u == 0) = false := by simp; omega
                  go_wp2_with ((go_at_call 47; refine hcall.mono ?_; rintro e W2 ⟨h1, m2, hw2⟩; obtain rfl := (show e = _ from h1); have hro2 := Lib.hid (row_fr0 HRO.out (fr_drewN hw2)); have hz3 := (HF.out.then0 (fr_drewN hw2)).size; have hcell2 := (fr_drewN hw2).cell id hcell))
                  go_ret2
                  exact ⟨by rw [HN.out]; rfl, HF.out.then0 (fr_drewN hw2)⟩
              · have hx0 : (u == 0) = false := by simp; omega
                go_wp2_with (first
                  | (go_at_call 47; refine hcall.mono ?_; rintro e W2 ⟨h1, m2, hw2⟩; obtain rfl := (show e = _ from h1); have hro2 := Lib.hid (row_fr0 HRO.out (fr_drewN hw2)); have hz3 := (HF.out.then0 (fr_drewN hw2)).size; have hcell2 := (fr_drewN hw2).cell id hcell)
                  | (at_builtin; have hz4 := hz3; go_loud (refine wpList_append_lies _ rfl _ _ 22 rfl w.heap.size 23 i0 (.int .u64 0) 1 8 Try.underlying22 hi hz0 hz1 hz2 rfl (by decide) (.slice (some ⟨g0, 0, none⟩) (m + 1) cap) (m + 1) _ rfl (hro2.out.alloc _) ⟨W2.heap.size, 0, none⟩ 1 1 [.int .u64 u] rfl rfl (World.news_of_block (cs := #[.int .u64 u]) (t := 23) (fr := (0, 0)) (heap_alloc_new W2 _)) (by simp [Value.oneCell']) (by omega) (by unfold maxLen; omega) (by omega) (by simp; omega) (W2.heap.size + 1) (by simp) ?_); intro g gc W3 hown hgrow hfresh hlt2))
                go_roundw
                case rel =>
                  obtain ⟨k', l', r2, e1, _, e3, rest⟩ := HNEW.out W3 g gc hle ((HF.out.then0 (fr_drewN hw2)).alloc _ |>.grown hgrow fun q hq => .inr (HOW.out q hq)) hown
                  exact ⟨k', l', r2, e1, rfl, by simpa using e3, rest⟩
                case measure => simp [intOf]; omega
            | false =>
              have huw : (x : Int) = u := by
                rw [hun, if_pos]
                simp at h32; omega
              clear hun
              subst huw
              clear hx hu0 hu1
              by_cases hle : (x : Int) ≤ la
              · have HN := Lib.hid (HST.out hle)
                by_cases hu00 : (x : Int) = 0
                · have hx0 : ((x : Int) == 0) = true := by simp; omega
                  go_wp2_with ((go_at_call 47; refine hcall.mono ?_; rintro e W2 ⟨h1, m2, hw2⟩; obtain rfl := (show e = _ from h1); have hro2 := Lib.hid (row_fr0 HRO.out (fr_drewN hw2)); have hz3 := (HF.out.then0 (fr_drewN hw2)).size; have hcell2 := (fr_drewN hw2).cell id hcell))
                  go_ret2
                  exact ⟨by rw [HN.out]; rfl, HF.out.then0 (fr_drewN hw2)⟩
                · have hx0 : ((x : Int) == 0) = false := by simp; omega
                  go_wp2_with ((go_at_call 47; refine hcall.mono ?_; rintro e W2 ⟨h1, m2, hw2⟩; obtain rfl := (show e = _ from h1); have hro2 := Lib.hid (row_fr0 HRO.out (fr_drewN hw2)); have hz3 := (HF.out.then0 (fr_drewN hw2)).size; have hcell2 := (fr_drewN hw2).cell id hcell))
                  go_ret2
                  exact ⟨by rw [HN.out]; rfl, HF.out.then0 (fr_drewN hw2)⟩
              · have hx0 : ((x : Int) == 0) = false := by simp; omega
                go_wp2_with (first
                  | (go_at_call 47; refine hcall.mono ?_; rintro e W2 ⟨h1, m2, hw2⟩; obtain rfl := (show e = _ from h1); have hro2 := Lib.hid (row_fr0 HRO.out (fr_drewN hw2)); have hz3 := (HF.out.then0 (fr_drewN hw2)).size; have hcell2 := (fr_drewN hw2).cell id hcell)
                  | (at_builtin; have hz4 := hz3; go_loud (refine wpList_append_lies _ rfl _ _ 22 rfl w.heap.size 23 i0 (.int .u64 0) 1 8 Try.underlying22 hi hz0 hz1 hz2 rfl (by decide) (.slice (some ⟨g0, 0, none⟩) (m + 1) cap) (m + 1) _ rfl (hro2.out.alloc _) ⟨W2.heap.size, 0, none⟩ 1 1 [.int .u64 (x : Int)] rfl rfl (World.news_of_block (cs := #[.int .u64 (x : Int)]) (t := 23) (fr := (0, 0)) (heap_alloc_new W2 _)) (by simp [Value.oneCell']) (by omega) (by unfold maxLen; omega) (by omega) (by simp; omega) (W2.heap.size + 1) (by simp) ?_); intro g gc W3 hown hgrow hfresh hlt2))
                go_roundw
                case rel =>
                  obtain ⟨k', l', r2, e1, _, e3, rest⟩ := HNEW.out W3 g gc hle ((HF.out.then0 (fr_drewN hw2)).alloc _ |>.grown hgrow fun q hq => .inr (HOW.out q hq)) hown
                  exact ⟨k', l', r2, e1, rfl, by simpa using e3, rest⟩
                case measure => simp [intOf]; omega
      · obtain rfl : k = n := by omega
        have hrm' := hrm.out
        rw [Nat.sub_self, rdMore] at hrm'
        have hlw : ∀ x ∈ l, (Lit.int .u64 x).wf = true := fun x hx => WalkArith.wf_u64 (by have := hlp x hx; omega)
        cases hemp : r.toList.isEmpty with
        | true =>
          have hz : r.size = 0 := by rw [empty_of] at hemp; simpa using hemp
          have hl : rdList s = some l := by unfold rdList; rw [hrd]; simp only [← hrm', hz, if_true]
          rw [← hlk] at hrow
          have HL := Lib.hid hl
          have HI := Lib.hid (row_ints hrow hlw); have HF := Lib.hid hfr
          clear hl hrm hrm' hrow hfr hlp hrd hlw
          go_wp2
          go_ret2
          exact ⟨by rw [HL.out]; exact ⟨_, rfl, HI.out⟩, HF.out⟩
        | false =>
          have hz : ¬ r.size = 0 := by rw [empty_of] at hemp; simpa using hemp
          have hl : rdList s = none := by unfold rdList; rw [hrd]; simp only [← hrm', hz, if_false]
          have HL := Lib.hid hl; have HF := Lib.hid hfr
          clear hl hrm hrm' hrow hfr hlp hrd hz hlw
          go_wp2
          go_ret2
          exact ⟨by rw [HL.out]; rfl, HF.out⟩

end Go.Proofs.Ytldboadcglofaaa
