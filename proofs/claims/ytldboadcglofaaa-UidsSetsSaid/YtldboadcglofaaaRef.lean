/- The document's answers on plain lists: Has, Seek, whether two are the same, Of.
   Condition: at most 2^44 numbers. -/
import Derived.Test.YtldboadcglofaaaSeek
namespace Go.Proofs.Ytldboadcglofaaa
open Go.RowKit Go.Shelf
attribute [local go_sem] Oper.semAt_some
set_option linter.unusedVariables false
set_option linter.unusedSimpArgs false

set_option maxHeartbeats 400000 in
theorem rhas_any (w : World) (b : Nat) (v : Value) (xs : List Int) (u : Int) (h : Ints .u64 w b v xs) :
    Calls Try.prog 17 #[v, .int .u64 u] w fun e w' => e = .returned (.bool (decide (u ∈ xs))) ∧ w = w' := by
  obtain ⟨a, off, cap, rfl, h1, h2, h3, h4, h5, h6⟩ := h
  have HC := Lib.hid h5; clear h5 h6 h4
  go_enter Try.func17, Try.ntmps17
  go_wp2
  go_loop [5] (fun i => ∃ k : Nat, k ≤ xs.length ∧ i = .int .i64 k ∧ Hid (u ∉ xs.take k)) (fun i => xs.length - (intOf i).toNat)
  case atStart => exact ⟨0, Nat.zero_le _, rfl, by simp [Hid]⟩
  case round =>
    obtain ⟨k, hk, rfl, hn⟩ := hrel
    by_cases hlt : k < xs.length
    · obtain rfl := h3 (by omega)
      have hck := HC.out k hlt
      have hts := take_succ xs hlt
      have hmem : xs[k] ∈ xs := List.getElem_mem hlt
      obtain ⟨x, hx⟩ : ∃ x, xs[k] = x := ⟨_, rfl⟩
      rw [hx] at hck hts hmem
      have HTS := Lib.hid hts; have HM := Lib.hid hmem
      clear hts hmem hx
      cases heq : (x == u) with
      | true =>
        obtain rfl : x = u := by simpa using heq
        go_wp2
        go_ret
        exact ⟨ret_bool (by simp [HM.out]), rfl⟩
      | false =>
        go_wp2
        go_round
        case rel => exact ⟨k + 1, by omega, by go_num, by
          show u ∉ xs.take (k + 1)
          rw [HTS.out, List.mem_append]
          rintro (h | h)
          · exact hn.out h
          · simp at h; rw [h] at heq; simp at heq⟩
        case measure => simp [intOf]; omega
    · obtain rfl : k = xs.length := by omega
      go_wp2
      go_ret
      exact ⟨ret_bool (by have := hn.out; rw [List.take_length] at this; simp [this]), rfl⟩

theorem seekOf_at {xs : List Int} {u : Int} {k : Nat} (h : k < xs.length) (hn : ∀ x ∈ xs.take k, x < u) (hu : u ≤ xs[k]) : seekOf xs u = (xs[k], true) := by
  unfold seekOf
  have hd : xs.drop k = xs[k] :: xs.drop (k + 1) := List.drop_eq_getElem_cons h
  have hf : xs.find? (fun x => decide (u ≤ x)) = some xs[k] := by
    conv => lhs; rw [← List.take_append_drop k xs, hd]
    rw [List.find?_append, List.find?_eq_none.2 (fun x hx => by have := hn x hx; simp; omega)]
    rw [List.find?_cons]; simp [hu]
  rw [hf]
theorem seekOf_none {xs : List Int} {u : Int} (hn : ∀ x ∈ xs, x < u) : seekOf xs u = (0, false) := by
  unfold seekOf
  rw [List.find?_eq_none.2 (fun x hx => by have := hn x hx; simp; omega)]

set_option maxHeartbeats 400000 in
theorem rseek_any (w : World) (b : Nat) (v : Value) (xs : List Int) (u : Int) (h : Ints .u64 w b v xs) :
    Calls Try.prog 12 #[v, .int .u64 u] w fun e w' => e = .returned (.tuple #[.int .u64 (seekOf xs u).1, .bool (seekOf xs u).2]) ∧ w = w' := by
  obtain ⟨a, off, cap, rfl, h1, h2, h3, h4, h5, h6⟩ := h
  have HC := Lib.hid h5; clear h5 h6 h4
  go_enter Try.func12, Try.ntmps12
  go_wp2
  go_loop [6] (fun i => ∃ k : Nat, k ≤ xs.length ∧ i = .int .i64 k ∧ Hid (∀ x ∈ xs.take k, x < u)) (fun i => xs.length - (intOf i).toNat)
  case atStart => exact ⟨0, Nat.zero_le _, rfl, by simp [Hid]⟩
  case round =>
    obtain ⟨k, hk, rfl, hn⟩ := hrel
    by_cases hlt : k < xs.length
    · obtain rfl := h3 (by omega)
      have hck := HC.out k hlt
      have hts := take_succ xs hlt
      have hat := fun hu => seekOf_at hlt hn.out hu
      obtain ⟨x, hx⟩ : ∃ x, xs[k] = x := ⟨_, rfl⟩
      rw [hx] at hck hts hat
      have HTS := Lib.hid hts; have HA := Lib.hid hat
      clear hts hx hat
      by_cases hux : u ≤ x
      · go_wp2
        go_ret2
        exact ⟨by rw [HA.out hux]; rfl, rfl⟩
      · go_wp2
        go_round
        case rel => exact ⟨k + 1, by omega, by go_num, by
          show ∀ y ∈ xs.take (k + 1), y < u
          intro y hy
          rw [HTS.out, List.mem_append] at hy
          rcases hy with hy | hy
          · exact hn.out y hy
          · simp at hy; omega⟩
        case measure => simp [intOf]; omega
    · obtain rfl : k = xs.length := by omega
      go_wp2
      go_ret2
      exact ⟨by rw [seekOf_none (by have := hn.out; rwa [List.take_length] at this)]; rfl, rfl⟩

set_option maxHeartbeats 400000 in
theorem same_any (w : World) (b c : Nat) (v z : Value) (xs ys : List Int) (h : Ints .u64 w b v xs) (h' : Ints .u64 w c z ys) :
    Calls Try.prog 13 #[v, z] w fun e w' => e = .returned (.bool (decide (xs = ys))) ∧ Fr N0 w w' := by
  obtain ⟨a, off, cap, rfl, h1, h2, h3, h4, h5, h6⟩ := h
  obtain ⟨a', off', cap', rfl, h1', h2', h3', h4', h5', h6'⟩ := h'
  have HC := Lib.hid h5; have HC' := Lib.hid h5'; clear h5 h6 h4 h5' h6' h4'
  by_cases hlen : xs.length = ys.length
  · have hln : ((xs.length : Int) != (ys.length : Int)) = false := by simp [hlen]
    obtain ⟨n, hn⟩ : ∃ n, xs.length = n := ⟨_, rfl⟩
    have hn' : ys.length = n := by omega
    have HX := Lib.hid hn; have HY := Lib.hid hn'
    rw [hn, hn'] at hln
    rw [hn, hn']
    rw [hn] at h1 h3; rw [hn'] at h1' h3'
    clear hlen hn hn'
    go_enter Try.func13, Try.ntmps13
    go_wp2
    go_loopw [5] (fun i wr => ∃ k : Nat, k ≤ n ∧ i = .int .i64 k ∧ Hid (xs.take k = ys.take k) ∧ Fr N0 w wr) (fun i _ => n - (intOf i).toNat)
    case atStart => exact ⟨0, Nat.zero_le _, rfl, by simp [Hid], Fr.refl _ _⟩
    case round =>
      obtain ⟨k, hk, rfl, hn, hfr⟩ := hrel
      by_cases hlt : k < n
      · obtain rfl := h3 (by omega)
        obtain rfl := h3' (by omega)
        have hxl : k < xs.length := by rw [HX.out]; exact hlt
        have hyl : k < ys.length := by rw [HY.out]; exact hlt
        have e1 := hfr.cell id (HC.out k hxl)
        have e2 := hfr.cell id (HC'.out k hyl)
        have t1 := take_succ xs hxl
        have t2 := take_succ ys hyl
        have hne : xs[k] ≠ ys[k] → xs ≠ ys := fun h e => h (by subst e; rfl)
        obtain ⟨x, hx⟩ : ∃ x, xs[k] = x := ⟨_, rfl⟩
        obtain ⟨y, hy⟩ : ∃ x, ys[k] = x := ⟨_, rfl⟩
        rw [hx] at e1 t1 hne; rw [hy] at e2 t2 hne
        have HT := Lib.hid t1; have HT' := Lib.hid t2; have HNE := Lib.hid hne
        clear t1 t2 hne hx hy hxl hyl
        have hki : (k : Int) < (n : Int) := by omega
        cases hxy : (x != y) with
        | true =>
          go_wp2
          go_quiet (fail)
          go_wp2
          go_ret
          exact ⟨ret_bool (by simp [HNE.out (by simpa using hxy)]), hfr.drewN _⟩
        | false =>
          obtain rfl : x = y := by simpa using hxy
          go_wp2
          go_quiet (fail)
          go_wp2
          go_roundw
          case rel => exact ⟨k + 1, by omega, by go_num, by show xs.take (k + 1) = ys.take (k + 1); rw [HT.out, HT'.out, hn.out], hfr.drewN _⟩
          case measure => simp [intOf]; omega
      · obtain rfl : k = n := by omega
        go_wp2
        go_ret
        have : xs = ys := by
          have := hn.out
          rwa [List.take_of_length_le (by rw [HX.out]; omega), List.take_of_length_le (by rw [HY.out]; omega)] at this
        exact ⟨ret_bool (by simp [this]), hfr⟩
  · have hln : ((xs.length : Int) != (ys.length : Int)) = true := by simp; omega
    have hne : xs ≠ ys := fun e => hlen (by rw [e])
    have HNE := Lib.hid hne
    clear hne hlen
    go_enter Try.func13, Try.ntmps13
    go_wp2
    go_ret
    exact ⟨ret_bool (by simp [HNE.out]), Fr.refl _ _⟩

end Go.Proofs.Ytldboadcglofaaa
