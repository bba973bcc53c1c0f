/- Numbers as bytes: code.Num. Condition: the number is one of 64 bits. -/
import Derived.Test.YtldboadcglofaaaSeqs
import Derived.Laws.BytesArg
namespace Go.Proofs.Ytldboadcglofaaa
open Go.RowKit Go.Shelf
attribute [local go_sem] Oper.semAt_some
set_option linter.unusedVariables false
set_option linter.unusedSimpArgs false

/-- The last m bytes of x, the highest first. -/
def be : Nat → Nat → List Int
  | 0, _ => []
  | m + 1, x => ((x / 256 ^ m % 256 : Nat) : Int) :: be m x
/-- How many bytes x has. -/
def nb (x : Nat) : Nat := if h : x = 0 then 0 else nb (x / 256) + 1
termination_by x
decreasing_by omega
/-- A number's bytes: how many, and they. -/
def num (x : Nat) : List Int := (nb x : Int) :: be (nb x) x

theorem be_length : ∀ (m x : Nat), (be m x).length = m
  | 0, _ => rfl
  | m + 1, x => by simp [be, be_length m x]
theorem nb_zero : nb 0 = 0 := by unfold nb; simp
theorem nb_step {x : Nat} (h : x ≠ 0) : nb x = nb (x / 256) + 1 := by conv => lhs; unfold nb; simp [h]
theorem nb_le : ∀ (k x : Nat), x < 256 ^ k → nb x ≤ k
  | 0, x, h => by have : x = 0 := by simpa using h
                  rw [this, nb_zero]; exact Nat.le_refl _
  | k + 1, x, h => by
    by_cases hx : x = 0
    · rw [hx, nb_zero]; omega
    · rw [nb_step hx]
      have := nb_le k (x / 256) (by rw [Nat.pow_succ] at h; omega)
      omega

theorem set_rep (R : List Int) (v : Int) : ∀ m : Nat, (List.replicate (m + 1) 0 ++ R).set m v = List.replicate m 0 ++ v :: R
  | 0 => rfl
  | m + 1 => by
    have := set_rep R v m
    simp only [List.replicate_succ, List.cons_append, List.set_cons_succ] at this ⊢
    rw [this]

/-- The array's cells while the bytes are written, from place i + 1 on. -/
def numCells (x n i : Nat) : List Int := (n : Int) :: (List.replicate i 0 ++ (be (n - i) x ++ List.replicate (8 - n) 0))

theorem numCells_step (x n i : Nat) (hi : i + 1 ≤ n) : (numCells x n (i + 1)).set (i + 1) ((x / 256 ^ (n - (i + 1)) % 256 : Nat) : Int) = numCells x n i := by
  unfold numCells
  rw [List.set_cons_succ, set_rep]
  have : n - i = n - (i + 1) + 1 := by omega
  rw [this, be, List.cons_append]
theorem numCells_length (x n i : Nat) (hi : i ≤ n) (hn : n ≤ 8) : (numCells x n i).length = 9 := by
  simp [numCells, be_length]; omega
theorem numCells_start (x n : Nat) (hn : n ≤ 8) : ((List.replicate 9 (0 : Int)).set 0 (n : Int)) = numCells x n n := by
  unfold numCells
  simp only [Nat.sub_self, be, List.nil_append, List.replicate_append_replicate]
  rw [show n + (8 - n) = 8 by omega]; rfl

theorem u8a9_slice (W : World) (a : Addr) (n : Nat) (hn : n ≤ 8) : (Instr.sliceAt 90 (.pointer (some a)) none (some (.int .i64 ((n : Int) + 1))) none).run Try.prog W = .ok (.slice (some a) (n + 1) 9) W := by
  have hlen : Try.prog.arrayLen 90 = 9 := by kernel_rfl
  have hsz : ∀ W, (sizeOf (Try.prog.elem 90)).run Try.prog W = .ok 1 W := fun W => by kernel_rfl
  rw [run_sliceAt_array_h W 90 a (by kernel_rfl) .i64 _ (by omega) (by rw [hlen]; omega), hsz, hlen]
  simp only [Result.andThen_ok, slicedAt]
  have : ((n : Int) + 1).toNat = n + 1 := by omega
  rw [this]
  simp [Addr.add]

set_option maxHeartbeats 1000000 in
theorem num_any (x : Nat) (hx : x < 18446744073709551616) (w : World) :
    Calls Try.prog 48 #[.int .u64 (x : Int)] w fun e w' => e = .returned (.string (strOfNums (num x))) ∧ Fr N0 w w' := by
  have hn8 : nb x ≤ 8 := nb_le 8 x (by simpa using hx)
  go_enter Try.func48, Try.ntmps48
  go_wp2
  go_loop [4, 5] (fun kv yv => ∃ k y : Nat, kv = .int .i64 k ∧ yv = .int .u64 y ∧ Hid (k + nb y = nb x) ∧ y < 18446744073709551616) (fun _ yv => (intOf yv).toNat)
  case atStart => exact ⟨0, x, by go_num, rfl, by simp [Hid], hx⟩
  case round =>
    obtain ⟨k, y, rfl, rfl, hk, hy⟩ := hrel
    by_cases hy0 : y = 0
    · subst hy0
      have hkn : k = nb x := by have := hk.out; rw [nb_zero] at this; omega
      subst hkn
      obtain ⟨n, hn⟩ : ∃ n, nb x = n := ⟨_, rfl⟩
      have hnum : num x = (n : Int) :: be n x := by rw [num, hn]
      rw [hn] at hn8 ⊢
      obtain ⟨W0, hW0⟩ : ∃ W0, w.alloc (.cells #[.int .u8 0, .int .u8 0, .int .u8 0, .int .u8 0, .int .u8 0, .int .u8 0, .int .u8 0, .int .u8 0, .int .u8 0] 90) = W0 := ⟨_, rfl⟩
      have hf0 : Fr N0 w W0 := by rw [← hW0]; exact (Fr.refl _ _).alloc _
      have hr0 : W0.ownsRow w.heap.size 90 1 (.slice (some ⟨w.heap.size, 0, none⟩) 9 9) 9 ((List.replicate 9 (0 : Int)).map (Value.int .u8)) := by
        rw [← hW0]
        exact ⟨by simp, .inr ⟨w.heap.size, 9, _, rfl, Nat.le_refl _, World.alloc_heap_new _ _, Nat.le_refl _, by simp [maxLen], rfl, rfl⟩⟩
      rw [hW0]
      have e0 : W0.cell? ⟨w.heap.size, 0, none⟩ = some (.int .u8 0) := by rw [hr0.cellAt _ (by omega)]; rfl
      have f0 := hr0.frozenAt 0
      have hr1 := (hr0.stored 0 (.int .u8 (n : Int))).1
      have hr1' : (W0.setCell ⟨w.heap.size, 0, none⟩ (.int .u8 (n : Int))).ownsRow w.heap.size 90 1 (.slice (some ⟨w.heap.size, 0, none⟩) 9 9) 9 ((numCells x n n).map (Value.int .u8)) := by
        rw [← numCells_start x n hn8, List.map_set]; exact hr1
      have hf1 := hf0.setCell (p := ⟨w.heap.size, 0, none⟩) (.inr (Nat.le_refl _)) (.int .u8 (n : Int))
      have HR1 := Lib.hid hr1'; have HF1 := Lib.hid hf1; have HNUM := Lib.hid hnum
      clear hr0 hr1 hr1' hf0 hf1 hnum hW0 hk hn
      have hnw : IntKind.u8.wrap (n : Int) = (n : Int) := IntWalk.u8_in _ (by omega)
      go_wp2
      clear e0 f0
      go_loopw [0, 6] (fun xv iv wr => ∃ i z : Nat, xv = .int .u64 z ∧ iv = .int .i64 i ∧ i ≤ n ∧ z < 18446744073709551616 ∧ Hid (z = x / 256 ^ (n - i)) ∧
          wr.ownsRow w.heap.size 90 1 (.slice (some ⟨w.heap.size, 0, none⟩) 9 9) 9 ((numCells x n i).map (Value.int .u8)) ∧ Fr N0 w wr) (fun _ iv _ => (intOf iv).toNat)
      case atStart => exact ⟨n, x, rfl, rfl, Nat.le_refl _, hx, by simp [Hid], HR1.out, HF1.out⟩
      case round =>
        obtain ⟨i, z, rfl, rfl, hi, hz, hzx, hrow, hfr⟩ := hrel
        clear hnw
        by_cases hi0 : i = 0
        · subst hi0
          have hcv : ∀ dst, Try.prog.underlying dst = some .string → (convert 79 dst (.slice (some ⟨w.heap.size, 0, none⟩) (n + 1) 9)).run Try.prog wr = .ok (.string (strOfNums (num x))) wr := by
            refine run_convert_bytes_arg wr 79 5 Try.underlying79 (by kernel_rfl) w.heap.size 0 (n + 1) 9 (num x) (by rw [HNUM.out]; simp [be_length]) fun i hi => ?_
            have hlt : i < (num x).length := by rw [HNUM.out]; simp [be_length]; omega
            rw [Nat.zero_add, hrow.cellAt i (by omega), List.getElem?_map]
            have : (numCells x n 0)[i]? = (num x)[i]? := by
              have e : numCells x n 0 = num x ++ List.replicate (8 - n) 0 := by rw [HNUM.out]; simp [numCells]
              rw [e, List.getElem?_append_left hlt]
            rw [this, List.getElem?_eq_getElem hlt, List.getD, List.getElem?_eq_getElem hlt]
            rfl
          have hcv' := hcv 9 (by kernel_rfl)
          have HFR := Lib.hid hfr
          clear hcv hrow hfr
          have hsl := u8a9_slice wr ⟨w.heap.size, 0, none⟩ n hn8
          go_wp2
          go_ret
          exact ⟨rfl, HFR.out⟩
        · obtain ⟨j, rfl⟩ : ∃ j, i = j + 1 := ⟨i - 1, by omega⟩
          have ec : wr.cell? ⟨w.heap.size, j + 1, none⟩ = some (.int .u8 0) := by
            have h1 := hrow.cellAt (j + 1) (by omega)
            rw [h1, List.getElem?_map]
            have : (numCells x n (j + 1))[j + 1]? = some 0 := by
              simp only [numCells, List.getElem?_cons_succ]
              rw [List.getElem?_append_left (by simp), List.getElem?_replicate, if_pos (by omega)]
            rw [this]; rfl
          have fc := hrow.frozenAt (j + 1)
          have hstp := numCells_step x n j hi
          have hz2 : z / 256 = x / 256 ^ (n - j) := by
            rw [hzx.out, Nat.div_div_eq_div_mul, ← Nat.pow_succ]
            congr 2; omega
          have hbw : IntKind.u8.wrap (z : Int) = ((z % 256 : Nat) : Int) := by rw [IntKind.wrap_u8]; omega
          have HST := Lib.hid hstp; have HZ2 := Lib.hid hz2; have HRW := Lib.hid hrow; have HFR := Lib.hid hfr
          clear hstp hz2 hrow hfr
          have hj9 : (j : Int) + 1 < 9 := by omega
          obtain ⟨bt, hbt⟩ : ∃ bt, ((z % 256 : Nat) : Int) = bt := ⟨_, rfl⟩
          have HBT := Lib.hid hbt
          rw [hbt] at hbw
          clear hbt
          go_wp2
          go_roundw
          case rel =>
            refine ⟨j, z / 256, by go_num, by go_num, by omega, by omega, HZ2.out, ?_, HFR.out.setCell (p := ⟨w.heap.size, j + 1, none⟩) (.inr (Nat.le_refl _)) _⟩
            rw [← HST.out, ← hzx.out, HBT.out, List.map_set]
            exact (HRW.out.stored (j + 1) (.int .u8 bt)).1
          case measure => simp [intOf]
    · have hst := nb_step hy0
      have hk' := hk.out
      have hk8 : k < 8 := by omega
      have hne : ((y : Int) != 0) = true := by simp; omega
      go_wp2
      go_round
      case rel => exact ⟨k + 1, y / 256, by go_num, by go_num, by show k + 1 + nb (y / 256) = nb x; omega, by omega⟩
      case measure => simp [intOf]; omega

end Go.Proofs.Ytldboadcglofaaa
