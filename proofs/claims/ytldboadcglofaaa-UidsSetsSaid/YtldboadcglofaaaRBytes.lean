/- The document's bytes of a list: tesseraref16.Bytes. Condition: at most 2^40 numbers. -/
import Derived.Test.YtldboadcglofaaaRNum
import Derived.Test.YtldboadcglofaaaRef
namespace Go.Proofs.Ytldboadcglofaaa
open Go.RowKit Go.Shelf
attribute [local go_sem] Oper.semAt_some
set_option linter.unusedVariables false
set_option linter.unusedSimpArgs false

set_option maxHeartbeats 2000000 in
set_option maxRecDepth 100000 in
theorem rbytes_any (w : World) (b : Nat) (v : Value) (l : List Int) (h : Ints .u64 w b v l) (hl : l.length ≤ 1099511627776) (hs : l.Pairwise (· < ·)) (hp : ∀ x ∈ l, 0 < x ∧ x < 18446744073709551616) :
    Calls Try.prog 24 #[v] w fun e w' => e = .returned (.string (strOfNums (bytesOf l))) ∧ Fr N0 w w' := by
  obtain ⟨a, off, cap, rfl, h1, h2, h3, h4, h5, h6⟩ := h
  have hst := stepOf_lt hp
  have hadd : ∀ W k, k < l.length → (Op.stringOp .add (strOfNums (preOf l k)) (strOfNums (num (stepOf l k)))).run Try.prog W = .ok (.string (strOfNums (preOf l (k + 1)))) W := fun W k hk => by
    have e1 := preOf_length l k hst (by omega)
    have e2 := num_length _ (hst k)
    refine (run_string_add_sum W _ _ (by simp only [strOfNums_size]; omega)).trans ?_
    rw [strOfNums_append, ← preOf_succ]
  have hn0 := fun W => rnum_any l.length (by omega) W
  have hn1 := fun k W => rnum_any (stepOf l k) (hst k) W
  have hs0 : ∀ k (hk : k < l.length), k % 32 = 0 → l[k] = (stepOf l k : Int) := fun k hk h0 => by
    have := hp _ (List.getElem_mem hk)
    simp only [stepOf, if_pos h0, List.getD_eq_getElem?_getD, List.getElem?_eq_getElem hk, Option.getD_some]; omega
  have hs1 : ∀ k (hk : k + 1 < l.length), ¬ (k + 1) % 32 = 0 → IntKind.u64.wrap (l[k + 1] - l[k]) = (stepOf l (k + 1) : Int) := fun k hk h0 => by
    have a1 := hp _ (List.getElem_mem hk)
    have a2 := hp _ (List.getElem_mem (show k < l.length by omega))
    have a3 := List.pairwise_iff_getElem.1 hs k (k + 1) (by omega) hk (by omega)
    rw [IntWalk.u64_in _ (by omega)]
    simp only [stepOf, if_neg h0, List.getD_eq_getElem?_getD, List.getElem?_eq_getElem hk, Nat.add_sub_cancel, List.getElem?_eq_getElem (show k < l.length by omega), Option.getD_some]; omega
  have hpre : preOf l 0 = num l.length := by simp [preOf]
  have HADD := Lib.hid hadd; have HN0 := Lib.hid hn0; have HN1 := Lib.hid hn1; have HS0 := Lib.hid hs0; have HS1 := Lib.hid hs1; have HC := Lib.hid h5; have HP := Lib.hid hpre
  clear hadd hn0 hn1 hs0 hs1 h5 h6 h4 hs hp hst hpre
  go_enter Try.func24, Try.ntmps24
  go_wp2_with (go_at_call 49; go_loud (refine (HN0.out _).mono ?_); rintro e w1 ⟨rfl, hf1⟩)
  go_loopw [3, 4] (fun sv iv W => ∃ k : Nat, k ≤ l.length ∧ iv = .int .i64 k ∧ sv = .string (strOfNums (preOf l k)) ∧ Fr N0 w W) (fun _ iv _ => l.length - (intOf iv).toNat)
  case atStart => exact ⟨0, Nat.zero_le _, rfl, by rw [HP.out], hf1⟩
  case round =>
    rename World => W1
    obtain ⟨k, hk, rfl, rfl, hfr⟩ := hrel
    by_cases hlt : k < l.length
    · obtain rfl := h3 (by omega)
      have hck := hfr.cell id (HC.out k hlt)
      have i1 : (0 : Int) ≤ (k : Int) := by omega
      have i2 : (k : Int) < (l.length : Int) := by omega
      have had := fun W => HADD.out W k hlt
      have hcl := HN1.out k
      cases h32 : ((k : Int) % 32 == 0) with
      | true =>
        have hkm : k % 32 = 0 := by simp at h32; omega
        rw [HS0.out k hlt hkm] at hck
        obtain ⟨n, hn⟩ : ∃ n, stepOf l k = n := ⟨_, rfl⟩
        rw [hn] at hck had hcl
        have HCL := Lib.hid hcl
        clear hcl hn
        go_wp2_with (go_at_call 49; go_loud (refine (HCL.out _).mono ?_); rintro e w2 ⟨rfl, hf2⟩)
        go_roundw
        case rel => exact ⟨k + 1, by omega, by go_num, rfl, hfr.then0 hf2⟩
        case measure => simp [intOf]; omega
      | false =>
        have hkm : ¬ k % 32 = 0 := by simp at h32; omega
        obtain ⟨m, rfl⟩ : ∃ m, k = m + 1 := ⟨k - 1, by omega⟩
        have hck2 := hfr.cell id (HC.out m (by omega))
        have hwr := HS1.out m hlt hkm
        obtain ⟨n, hn⟩ : ∃ n, stepOf l (m + 1) = n := ⟨_, rfl⟩
        obtain ⟨c1, hc1⟩ : ∃ c, l[m + 1] = c := ⟨_, rfl⟩
        obtain ⟨c2, hc2⟩ : ∃ c, l[m] = c := ⟨_, rfl⟩
        rw [hc1, hc2, hn] at hwr
        rw [hc1] at hck
        rw [hc2] at hck2
        rw [hn] at had hcl
        have HCL := Lib.hid hcl
        have j1 : (0 : Int) ≤ (m : Int) := by omega
        have j2 : (m : Int) < (l.length : Int) := by omega
        have j3 : IntKind.i64.wrap ((m : Int) + 1 - 1) = (m : Int) := by rw [IntWalk.i64_in _ (by omega)]; omega
        have j4 : IntKind.i64.wrap (m : Int) = (m : Int) := IntWalk.i64_in _ (by omega)
        clear hcl hn hc1 hc2
        go_wp2
        go_region_with (first
          | (go_at_call 49; go_loud (refine (HCL.out _).mono ?_); rintro e w2 ⟨rfl, hf2⟩))
        all_goals go_wp2
        all_goals
          go_roundw
          case rel => exact ⟨m + 1 + 1, by omega, by go_num, rfl, hfr.drew.then0 hf2⟩
          case measure => simp [intOf]; omega
    · obtain rfl : k = l.length := by omega
      go_wp2
      go_ret
      exact ⟨rfl, hfr⟩

end Go.Proofs.Ytldboadcglofaaa
