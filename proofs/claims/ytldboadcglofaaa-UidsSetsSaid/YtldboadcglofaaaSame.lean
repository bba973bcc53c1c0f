/- Whether two lists are the same: slices.Equal, uids.Same. Condition: at most 2^44 uids. -/
import Derived.Test.YtldboadcglofaaaRef
import Derived.Test.YtldboadcglofaaaDelf
namespace Go.Proofs.Ytldboadcglofaaa
open Go.RowKit Go.Shelf
attribute [local go_sem] Oper.semAt_some
set_option linter.unusedVariables false
set_option linter.unusedSimpArgs false

set_option maxRecDepth 100000 in
set_option maxHeartbeats 1000000 in
theorem equal_any (w : World) (b c : Nat) (v z : Value) (xs ys : List Int) (h : Ints .u64 w b v xs) (h' : Ints .u64 w c z ys) :
    Calls Try.prog 50 #[v, z] w fun e w' => e = .returned (.bool (decide (xs = ys))) ∧ Fr N0 w w' := by
  obtain ⟨a, off, cap, rfl, h1, h2, h3, h4, h5, h6⟩ := h
  obtain ⟨a', off', cap', rfl, h1', h2', h3', h4', h5', h6'⟩ := h'
  have HC := Lib.hid h5; have HC' := Lib.hid h5'; clear h5 h6 h4 h5' h6' h4'
  by_cases hlen : xs.length = ys.length
  · have hln : ((xs.length : Int) != (ys.length : Int)) = false := by simp [hlen]
    obtain ⟨n, hn⟩ : ∃ n, xs.length = n := ⟨_, rfl⟩
    have hn' : ys.length = n := by omega
    have HX := Lib.hid hn; have HY := Lib.hid hn'
    rw [hn, hn'] at hln
    rw [hn, hn']
    rw [hn] at h1 h3; rw [hn'] at h1' h3'
    clear hlen hn hn'
    go_enter Try.func50, Try.ntmps50
    go_wp2
    go_loopw [13] (fun i wr => ∃ k : Nat, k ≤ n ∧ i = .int .i64 k ∧ Hid (xs.take k = ys.take k) ∧ Fr N0 w wr) (fun i _ => n - (intOf i).toNat)
    case atStart => exact ⟨0, Nat.zero_le _, rfl, by simp [Hid], Fr.refl _ _⟩
    case round =>
      obtain ⟨k, hk, rfl, hn, hfr⟩ := hrel
      by_cases hlt : k < n
      · obtain rfl := h3 (by omega)
        obtain rfl := h3' (by omega)
        have hxl : k < xs.length := by rw [HX.out]; exact hlt
        have hyl : k < ys.length := by rw [HY.out]; exact hlt
        have e1 := hfr.cell id (HC.out k hxl)
        have e2 := hfr.cell id (HC'.out k hyl)
        have t1 := take_succ xs hxl
        have t2 := take_succ ys hyl
        have hne : xs[k] ≠ ys[k] → xs ≠ ys := fun h e => h (by subst e; rfl)
        obtain ⟨x, hx⟩ : ∃ x, xs[k] = x := ⟨_, rfl⟩
        obtain ⟨y, hy⟩ : ∃ x, ys[k] = x := ⟨_, rfl⟩
        rw [hx] at e1 t1 hne; rw [hy] at e2 t2 hne
        have HT := Lib.hid t1; have HT' := Lib.hid t2; have HNE := Lib.hid hne
        clear t1 t2 hne hx hy hxl hyl
        have hki : (k : Int) < (n : Int) := by omega
        cases hxy : (x != y) with
        | true =>
          go_wp2
          go_quiet (fail)
          go_wp2
          go_ret
          exact ⟨ret_bool (by simp [HNE.out (by simpa using hxy)]), hfr.drewN _⟩
        | false =>
          obtain rfl : x = y := by simpa using hxy
          go_wp2
          go_quiet (fail)
          go_wp2
          go_roundw
          case rel => exact ⟨k + 1, by omega, by go_num, by show xs.take (k + 1) = ys.take (k + 1); rw [HT.out, HT'.out, hn.out], hfr.drewN _⟩
          case measure => simp [intOf]; omega
      · obtain rfl : k = n := by omega
        go_wp2
        go_ret
        have : xs = ys := by
          have := hn.out
          rwa [List.take_of_length_le (by rw [HX.out]; omega), List.take_of_length_le (by rw [HY.out]; omega)] at this
        exact ⟨ret_bool (by simp [this]), hfr⟩
  · have hln : ((xs.length : Int) != (ys.length : Int)) = true := by simp; omega
    have hne : xs ≠ ys := fun e => hlen (by rw [e])
    have HNE := Lib.hid hne
    clear hne hlen
    go_enter Try.func50, Try.ntmps50
    go_wp2
    go_ret
    exact ⟨ret_bool (by simp [HNE.out]), Fr.refl _ _⟩

set_option maxRecDepth 100000 in
set_option maxHeartbeats 1000000 in
theorem usame_any (w : World) (n m : Nat) (p q : Option Addr) (l k : List Int) (h : IsL w n p l) (h' : IsL w m q k) (hn : n ≤ w.heap.size) (hm : m ≤ w.heap.size) (hl : l.length ≤ 17592186044416) (hk : k.length ≤ 17592186044416) :
    Calls Try.prog 25 #[.pointer p, .pointer q] w fun e w' => e = .returned (.bool (decide (l = k))) ∧ Fr N0 w w' := by
  have hlw : ∀ x ∈ l, (Lit.int .u64 x).wf = true := fun x hx => by
    obtain ⟨_, _, _, _, h4, _⟩ := h; have := h4 x hx; exact WalkArith.wf_u64 (by omega)
  have hkw : ∀ x ∈ k, (Lit.int .u64 x).wf = true := fun x hx => by
    obtain ⟨_, _, _, _, h4, _⟩ := h'; have := h4 x hx; exact WalkArith.wf_u64 (by omega)
  have h1 := slicec_any w n p l h hn hl
  have h2 := fun W (hW : Fr N0 w W) => slicec_any W m q k (h'.below (hW.below (fun _ h => h.elim) hm) (Nat.le_refl _)) (Nat.le_trans hm hW.size) hk
  have H1 := Lib.hid h1; have H2 := Lib.hid h2; have HLW := Lib.hid hlw; have HKW := Lib.hid hkw
  clear h1 h2 hlw hkw h h' hn hm hl hk
  go_enter Try.func25, Try.ntmps25
  go_wp2_with (first
    | (go_at_call 15; have hq := hi1; refine (H2.out _ hf1).mono ?_; rintro e w2 ⟨v2, rfl, hr2, hf2⟩; obtain ⟨b2, hi2⟩ := hr2.ints HKW.out)
    | (go_at_call 15; refine H1.out.mono ?_; rintro e w1 ⟨v1, rfl, hr1, hf1⟩; obtain ⟨b1, hi1⟩ := hr1.ints HLW.out)
    | (go_at_call 50; refine (equal_any _ _ _ _ _ _ _ (hi1.fr0 hf2) hi2).mono ?_; rintro e w3 ⟨rfl, hf3⟩))
  go_ret
  exact ⟨rfl, (hf1.then0 hf2).then0 hf3⟩

end Go.Proofs.Ytldboadcglofaaa
