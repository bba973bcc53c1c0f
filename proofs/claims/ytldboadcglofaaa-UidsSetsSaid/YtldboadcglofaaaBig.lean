/- Numbers out of bytes: code.big, code.ReadNum. -/
import Derived.Test.YtldboadcglofaaaNum
import Derived.Laws.BitsAllLaws
namespace Go.Proofs.Ytldboadcglofaaa
open Go.RowKit Go.Shelf
attribute [local go_sem] Oper.semAt_some
set_option linter.unusedVariables false
set_option linter.unusedSimpArgs false

/-- A text's bytes. -/
def bts (s : ByteArray) : List Nat := s.data.toList.map (·.toNat)
theorem bts_length (s : ByteArray) : (bts s).length = s.size := by unfold bts; rw [List.length_map, Array.length_toList]; rfl
theorem bts_lt (s : ByteArray) : ∀ b ∈ bts s, b < 256 := by
  intro b hb
  simp only [bts, List.mem_map] at hb
  obtain ⟨c, _, rfl⟩ := hb
  exact c.toNat_lt
theorem bts_get (s : ByteArray) (i : Nat) (h : i < s.size) (h' : i < (bts s).length) : (s[i]).toNat = (bts s)[i] := by
  simp only [bts, List.getElem_map, Array.getElem_toList]; rfl
theorem bts_extract (s : ByteArray) (a b : Nat) : bts (s.extract a b) = ((bts s).drop a).take (b - a) := by
  simp only [bts, ByteArray.data_extract, Array.toList_extract, List.extract, List.map_take, List.map_drop]
theorem size_extract (s : ByteArray) (a b : Nat) (h : b ≤ s.size) : (s.extract a b).size = b - a := by
  rw [← bts_length, bts_extract]; simp [bts_length]; omega

/-- The number that bytes are, the highest first. -/
def bigOf (l : List Nat) : Nat := l.foldl (fun x b => x * 256 + b) 0
theorem bigOf_snoc (l : List Nat) (b : Nat) : bigOf (l ++ [b]) = bigOf l * 256 + b := by simp [bigOf, List.foldl_append]
theorem fold_lt : ∀ (l : List Nat) (acc : Nat), (∀ b ∈ l, b < 256) → l.foldl (fun x b => x * 256 + b) acc < (acc + 1) * 256 ^ l.length
  | [], acc, _ => by simp
  | b :: l, acc, h => by
    have h1 := fold_lt l (acc * 256 + b) fun c hc => h c (by simp [hc])
    have h2 := h b (by simp)
    rw [List.foldl_cons, List.length_cons, Nat.pow_succ]
    refine Nat.lt_of_lt_of_le h1 ?_
    rw [Nat.mul_comm (256 ^ l.length) 256, ← Nat.mul_assoc]
    exact Nat.mul_le_mul_right _ (by omega)
theorem bigOf_lt {l : List Nat} (h : ∀ b ∈ l, b < 256) : bigOf l < 256 ^ l.length := by
  have := fold_lt l 0 h
  simpa [bigOf] using this

set_option maxHeartbeats 1000000 in
theorem big_any (s : ByteArray) (hs : s.size ≤ 8) (w : World) :
    Calls Try.prog 61 #[.string s] w fun e w' => e = .returned (.int .u64 (bigOf (bts s))) ∧ w = w' := by
  go_enter Try.func61, Try.ntmps61
  go_wp2
  have hbl := bts_length s
  go_loop [3, 4, 7] (fun xv _ iv => ∃ k x : Nat, iv = .int .i64 k ∧ xv = .int .u64 x ∧ k ≤ s.size ∧ x = bigOf ((bts s).take k) ∧ x < 256 ^ k) (fun _ _ iv => s.size - (intOf iv).toNat)
  case atStart => exact ⟨0, 0, rfl, rfl, Nat.zero_le _, by simp [bigOf], by simp⟩
  case round =>
    obtain ⟨k, x, rfl, rfl, hk, hx, hlt⟩ := hrel
    by_cases hks : k < s.size
    · have hkb : k < (bts s).length := by omega
      have hx56 : x < 72057594037927936 := by
        have : 256 ^ k ≤ 256 ^ 7 := Nat.pow_le_pow_right (by omega) (by omega)
        have e : (256 : Nat) ^ 7 = 72057594037927936 := by decide
        omega
      have hgt := bts_get s k hks hkb
      have hb := bts_lt s _ (List.getElem_mem hkb)
      have htk := take_succ (bts s) hkb
      obtain ⟨c, hc⟩ : ∃ c, (bts s)[k] = c := ⟨_, rfl⟩
      rw [hc] at hgt hb htk
      have hix : ∀ W, (Instr.index 9 (.string s) (.int .i64 (k : Int))).run Try.prog W = .ok (.int .u8 (c : Int)) W := fun W => by
        rw [run_index_string W 9 s .i64 k (by kernel_rfl), dif_pos ⟨by omega, by omega⟩]
        simp [hgt]
      have HT := Lib.hid htk; have HX := Lib.hid hx
      clear hgt htk hx hc
      go_wp2
      go_round
      case rel =>
        refine ⟨k + 1, x * 256 + c, by go_num, ?_, by omega, by rw [HT.out, bigOf_snoc, ← HX.out], by rw [Nat.pow_succ]; omega⟩
        rw [show (x : Int) * 256 = ((x * 256 : Nat) : Int) by simp, u64_or_nat _ _ (by omega) (by omega)]
        have := Nat.two_pow_add_eq_or_of_lt (i := 8) (b := c) hb x
        rw [show x * 256 = 2 ^ 8 * x by omega, ← this]
      case measure => simp [intOf]; omega
    · obtain rfl : k = s.size := by omega
      go_wp2
      go_ret
      refine ⟨?_, rfl⟩
      rw [List.take_of_length_le (by omega)]; rfl

/-- A number read off the head of a text, and the rest; none if there is none. -/
def rd (s : ByteArray) : Option (Nat × ByteArray) :=
  match bts s with
  | [] => none
  | b :: l => if 8 < b ∨ l.length < b ∨ (0 < b ∧ l.head? = some 0) then none else some (bigOf (l.take b), s.extract (1 + b) s.size)

def rdPost (r : Option (Nat × ByteArray)) (e : Ending) : Prop :=
  match r with
  | some (x, t) => e = .returned (.tuple #[.int .u64 x, .string t, .int .i64 0])
  | none => ∃ er : Int, er ≠ 0 ∧ e = .returned (.tuple #[.int .u64 0, .string ByteArray.empty, .int .i64 er])

theorem bts_cons {s : ByteArray} (h : 0 < s.size) : ∃ b l, bts s = b :: l ∧ b < 256 ∧ l.length + 1 = s.size ∧ ∀ W, (Instr.index 9 (.string s) (.int .i64 0)).run Try.prog W = .ok (.int .u8 (b : Int)) W := by
  have hl := bts_length s
  cases hb : bts s with
  | nil => rw [hb] at hl; simp at hl; omega
  | cons b l =>
    refine ⟨b, l, rfl, bts_lt s b (by rw [hb]; simp), by rw [hb] at hl; simpa using hl, fun W => ?_⟩
    have hg := bts_get s 0 h (by omega)
    rw [run_index_string W 9 s .i64 0 (by kernel_rfl), dif_pos ⟨by omega, by omega⟩]
    simp only [hb, List.getElem_cons_zero] at hg
    simp [hg]

theorem bts_second {s : ByteArray} {b c : Nat} {l : List Nat} (h : bts s = b :: c :: l) : ∀ W, (Instr.index 9 (.string s) (.int .i64 1)).run Try.prog W = .ok (.int .u8 (c : Int)) W := by
  intro W
  have hl := bts_length s
  rw [h] at hl
  simp at hl
  have hg := bts_get s 1 (by omega) (by rw [h]; simp)
  rw [run_index_string W 9 s .i64 1 (by kernel_rfl), dif_pos ⟨by omega, by omega⟩]
  simp only [h, List.getElem_cons_succ, List.getElem_cons_zero] at hg
  simp [hg]

theorem empty_of {s : ByteArray} : s.toList.isEmpty = decide (s.size = 0) := by
  rw [ByteArray.toList_eq, ← bts_length s]
  unfold bts
  cases s.data.toList <;> simp

theorem big_same (s : ByteArray) (hs : s.size ≤ 8) (w : World) : Calls Try.prog 61 #[.string s] w fun e w' => e = .returned (.int .u64 (bigOf (bts s))) ∧ w' = w := (big_any s hs w).mono fun _ _ ⟨h1, h2⟩ => ⟨h1, h2.symm⟩

set_option maxHeartbeats 1000000 in
theorem readNum_any (s : ByteArray) (w : World) :
    Calls Try.prog 45 #[.string s] w fun e w' => rdPost (rd s) e ∧ ∃ m, w.drewN m = w' := by
  by_cases h0 : s.size = 0
  · have hemp : s.toList.isEmpty = true := by rw [empty_of]; simp [h0]
    have hrd : rd s = none := by
      have := bts_length s
      have hn : bts s = [] := List.eq_nil_of_length_eq_zero (by omega)
      unfold rd; rw [hn]
    have HRD := Lib.hid hrd; clear hrd
    go_enter Try.func45, Try.ntmps45
    go_wp2
    go_ret3
    exact ⟨by rw [HRD.out]; exact ⟨20, by decide, rfl⟩, 0, rfl⟩
  · have hemp : s.toList.isEmpty = false := by rw [empty_of]; simp [h0]
    obtain ⟨b, l, hb, hb2, hll, hix⟩ := bts_cons (s := s) (by omega)
    by_cases h8 : 8 < b
    · have hrd : rd s = none := by unfold rd; rw [hb]; simp [h8]
      have h8' : (8 : Int) < (b : Int) := by omega
      have HRD := Lib.hid hrd; clear hrd
      go_enter Try.func45, Try.ntmps45
      go_wp2
      go_ret3
      exact ⟨by rw [HRD.out]; exact ⟨21, by decide, rfl⟩, 0, rfl⟩
    · have h8' : ¬ (8 : Int) < (b : Int) := by omega
      by_cases hsh : l.length < b
      · have hrd : rd s = none := by unfold rd; rw [hb]; simp [hsh]
        have hsz : (s.size : Int) < 1 + (b : Int) := by omega
        have HRD := Lib.hid hrd; clear hrd
        go_enter Try.func45, Try.ntmps45
        go_wp2
        go_ret3
        exact ⟨by rw [HRD.out]; exact ⟨20, by decide, rfl⟩, 0, rfl⟩
      · have hsz : ¬ (s.size : Int) < 1 + (b : Int) := by omega
        have hbig := fun w => big_same (s.extract 1 (1 + b)) (by rw [size_extract _ _ _ (by omega)]; omega) w
        have hbt : bts (s.extract 1 (1 + b)) = l.take b := by rw [bts_extract, hb]; simp
        rw [hbt] at hbig
        have hnat : (1 + (b : Int)).toNat = 1 + b := by omega
        have hle : 1 + (b : Int) ≤ (s.size : Int) := by omega
        by_cases hz : 0 < b
        · obtain ⟨c, l', rfl⟩ : ∃ c l', l = c :: l' := by cases l with
            | nil => simp at hsh; omega
            | cons c l' => exact ⟨c, l', rfl⟩
          have hix2 := bts_second hb
          have h1b : (1 : Int) < 1 + (b : Int) := by omega
          cases hc : ((c : Int) == 0) with
          | true =>
            have hrd : rd s = none := by unfold rd; rw [hb]; have : c = 0 := by simpa using hc
                                         simp [hz, this]
            have HRD := Lib.hid hrd; clear hrd
            go_enter Try.func45, Try.ntmps45
            go_wp2
            go_ret3
            exact ⟨by rw [HRD.out]; exact ⟨21, by decide, rfl⟩, 0, rfl⟩
          | false =>
            have hrd : rd s = some (bigOf ((c :: l').take b), s.extract (1 + b) s.size) := by
              unfold rd; rw [hb]
              have : ¬ c = 0 := by simpa using hc
              show (if 8 < b ∨ (c :: l').length < b ∨ (0 < b ∧ (c :: l').head? = some 0) then none else _) = _
              rw [if_neg]
              simp only [List.head?_cons, Option.some.injEq, this, and_false, or_false]; omega
            have HRD := Lib.hid hrd; have HB := Lib.hid hbig
            clear hrd hbig hbt hb hll h0
            go_enter Try.func45, Try.ntmps45
            go_wp2
            go_quiet (first | (go_at_call 61; refine Calls.quiet_of_same (HB.out _)))
            go_wp2
            go_ret3
            exact ⟨by rw [HRD.out]; rfl, _, rfl⟩
        · have hrd : rd s = some (bigOf (l.take b), s.extract (1 + b) s.size) := by
            unfold rd; rw [hb]
            show (if 8 < b ∨ l.length < b ∨ (0 < b ∧ l.head? = some 0) then none else _) = _
            rw [if_neg]
            omega
          have h1b : ¬ (1 : Int) < 1 + (b : Int) := by omega
          have HRD := Lib.hid hrd; have HB := Lib.hid hbig
          clear hrd hbig hbt hb hll h0
          go_enter Try.func45, Try.ntmps45
          go_wp2
          go_quiet (first | (go_at_call 61; refine Calls.quiet_of_same (HB.out _)))
          go_wp2
          go_ret3
          exact ⟨by rw [HRD.out]; rfl, _, rfl⟩

end Go.Proofs.Ytldboadcglofaaa
