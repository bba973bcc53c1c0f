/- The document's numbers as bytes: tesseraref02.Big, ReadNum, Fixed, Num. Condition: the number is one of 64 bits. -/
import Derived.Test.YtldboadcglofaaaBig
import Derived.Test.YtldboadcglofaaaBytes
import Derived.Deep.RegionWith
namespace Go.Proofs.Ytldboadcglofaaa
open Go.RowKit Go.Shelf
attribute [local go_sem] Oper.semAt_some
set_option linter.unusedVariables false
set_option linter.unusedSimpArgs false

set_option maxRecDepth 100000 in
set_option maxHeartbeats 1000000 in
theorem rbig_any (s : ByteArray) (hs : s.size ≤ 8) (w : World) :
    Calls Try.prog 62 #[.string s] w fun e w' => e = .returned (.int .u64 (bigOf (bts s))) ∧ w' = w := by
  go_enter Try.func62, Try.ntmps62
  go_wp2
  have hbl := bts_length s
  go_loop [3, 4] (fun xv iv => ∃ k x : Nat, iv = .int .i64 k ∧ xv = .int .u64 x ∧ k ≤ s.size ∧ x = bigOf ((bts s).take k) ∧ x < 256 ^ k) (fun _ iv => s.size - (intOf iv).toNat)
  case atStart => exact ⟨0, 0, rfl, rfl, Nat.zero_le _, by simp [bigOf], by simp⟩
  case round =>
    obtain ⟨k, x, rfl, rfl, hk, hx, hlt⟩ := hrel
    by_cases hks : k < s.size
    · have hkb : k < (bts s).length := by omega
      have hx56 : x < 72057594037927936 := by
        have : 256 ^ k ≤ 256 ^ 7 := Nat.pow_le_pow_right (by omega) (by omega)
        have e : (256 : Nat) ^ 7 = 72057594037927936 := by decide
        omega
      have hgt := bts_get s k hks hkb
      have hb := bts_lt s _ (List.getElem_mem hkb)
      have htk := take_succ (bts s) hkb
      obtain ⟨c, hc⟩ : ∃ c, (bts s)[k] = c := ⟨_, rfl⟩
      rw [hc] at hgt hb htk
      have hix : ∀ W, (Instr.index 9 (.string s) (.int .i64 (k : Int))).run Try.prog W = .ok (.int .u8 (c : Int)) W := fun W => by
        rw [run_index_string W 9 s .i64 k (by kernel_rfl), dif_pos ⟨by omega, by omega⟩]
        simp [hgt]
      have HT := Lib.hid htk; have HX := Lib.hid hx
      clear hgt htk hx hc
      go_wp2
      go_round
      case rel =>
        refine ⟨k + 1, x * 256 + c, by go_num, ?_, by omega, by rw [HT.out, bigOf_snoc, ← HX.out], by rw [Nat.pow_succ]; omega⟩
        rw [show (x : Int) * 256 = ((x * 256 : Nat) : Int) by simp, u64_or_nat _ _ (by omega) (by omega)]
        have := Nat.two_pow_add_eq_or_of_lt (i := 8) (b := c) hb x
        rw [show x * 256 = 2 ^ 8 * x by omega, ← this]
      case measure => simp [intOf]; omega
    · obtain rfl : k = s.size := by omega
      go_wp2
      go_ret
      refine ⟨?_, rfl⟩
      rw [List.take_of_length_le (by omega)]; rfl

set_option maxRecDepth 100000 in
set_option maxHeartbeats 1000000 in
theorem rreadNum_any (s : ByteArray) (w : World) :
    Calls Try.prog 47 #[.string s] w fun e w' => rdPost (rd s) e ∧ ∃ m, w.drewN m = w' := by
  by_cases h0 : s.size = 0
  · have hemp : s.toList.isEmpty = true := by rw [empty_of]; simp [h0]
    have hrd : rd s = none := by
      have := bts_length s
      have hn : bts s = [] := List.eq_nil_of_length_eq_zero (by omega)
      unfold rd; rw [hn]
    have HRD := Lib.hid hrd; clear hrd
    go_enter Try.func47, Try.ntmps47
    go_wp2
    go_ret3
    exact ⟨by rw [HRD.out]; exact ⟨20, by decide, rfl⟩, 0, rfl⟩
  · have hemp : s.toList.isEmpty = false := by rw [empty_of]; simp [h0]
    obtain ⟨b, l, hb, hb2, hll, hix⟩ := bts_cons (s := s) (by omega)
    by_cases h8 : 8 < b
    · have hrd : rd s = none := by unfold rd; rw [hb]; simp [h8]
      have h8' : (8 : Int) < (b : Int) := by omega
      have HRD := Lib.hid hrd; clear hrd
      go_enter Try.func47, Try.ntmps47
      go_wp2
      go_ret3
      exact ⟨by rw [HRD.out]; exact ⟨21, by decide, rfl⟩, 0, rfl⟩
    · have h8' : ¬ (8 : Int) < (b : Int) := by omega
      by_cases hsh : l.length < b
      · have hrd : rd s = none := by unfold rd; rw [hb]; simp [hsh]
        have hsz : (s.size : Int) < 1 + (b : Int) := by omega
        have HRD := Lib.hid hrd; clear hrd
        go_enter Try.func47, Try.ntmps47
        go_wp2
        go_ret3
        exact ⟨by rw [HRD.out]; exact ⟨20, by decide, rfl⟩, 0, rfl⟩
      · have hsz : ¬ (s.size : Int) < 1 + (b : Int) := by omega
        have hbig := fun w => rbig_any (s.extract 1 (1 + b)) (by rw [size_extract _ _ _ (by omega)]; omega) w
        have hbt : bts (s.extract 1 (1 + b)) = l.take b := by rw [bts_extract, hb]; simp
        rw [hbt] at hbig
        have hnat : (1 + (b : Int)).toNat = 1 + b := by omega
        have hle : 1 + (b : Int) ≤ (s.size : Int) := by omega
        by_cases hz : 0 < b
        · obtain ⟨c, l', rfl⟩ : ∃ c l', l = c :: l' := by cases l with
            | nil => simp at hsh; omega
            | cons c l' => exact ⟨c, l', rfl⟩
          have hix2 := bts_second hb
          have h1b : (0 : Int) < (b : Int) := by omega
          cases hc : ((c : Int) == 0) with
          | true =>
            have hrd : rd s = none := by unfold rd; rw [hb]; have : c = 0 := by simpa using hc
                                         simp [hz, this]
            have HRD := Lib.hid hrd; clear hrd
            go_enter Try.func47, Try.ntmps47
            go_wp2
            go_ret3
            exact ⟨by rw [HRD.out]; exact ⟨21, by decide, rfl⟩, 0, rfl⟩
          | false =>
            have hrd : rd s = some (bigOf ((c :: l').take b), s.extract (1 + b) s.size) := by
              unfold rd; rw [hb]
              have : ¬ c = 0 := by simpa using hc
              show (if 8 < b ∨ (c :: l').length < b ∨ (0 < b ∧ (c :: l').head? = some 0) then none else _) = _
              rw [if_neg]
              simp only [List.head?_cons, Option.some.injEq, this, and_false, or_false]; omega
            have HRD := Lib.hid hrd; have HB := Lib.hid hbig
            clear hrd hbig hbt hb hll h0
            go_enter Try.func47, Try.ntmps47
            go_wp2
            go_quiet (first | (go_at_call 62; refine Calls.quiet_of_same (HB.out _)))
            go_wp2
            go_ret3
            exact ⟨by rw [HRD.out]; rfl, _, rfl⟩
        · have hrd : rd s = some (bigOf (l.take b), s.extract (1 + b) s.size) := by
            unfold rd; rw [hb]
            show (if 8 < b ∨ l.length < b ∨ (0 < b ∧ l.head? = some 0) then none else _) = _
            rw [if_neg]
            omega
          have h1b : ¬ (0 : Int) < (b : Int) := by omega
          have HRD := Lib.hid hrd; have HB := Lib.hid hbig
          clear hrd hbig hbt hb hll h0
          go_enter Try.func47, Try.ntmps47
          go_wp2
          go_quiet (first | (go_at_call 62; refine Calls.quiet_of_same (HB.out _)))
          go_wp2
          go_ret3
          exact ⟨by rw [HRD.out]; rfl, _, rfl⟩

theorem pow256 (i : Nat) : (2 : Int) ^ (8 * i) = ((256 ^ i : Nat) : Int) := by
  rw [Int.pow_mul]; simp

set_option maxRecDepth 100000 in
set_option maxHeartbeats 1000000 in
theorem rfixed_any (x n : Nat) (hx : x < 18446744073709551616) (hn : n ≤ 8) (w : World) :
    Calls Try.prog 63 #[.int .u64 (x : Int), .int .i64 (n : Int)] w fun e w' => e = .returned (.string (strOfNums (be n x))) ∧ Fr N0 w w' := by
  obtain ⟨i0, hi, hz0, hz1, hz2⟩ := info_parts infoU8
  go_enter Try.func63, Try.ntmps63
  go_wp2_with (at_make; go_loud (refine wpList_make_full _ rfl _ _ 79 rfl w.heap.size 5 i0 (.int .u8 0) 1 Try.underlying79 hi hz0 hz1 .i64 .i64 _ _ n rfl rfl rfl rfl (by rw [hz2]; omega) (by unfold maxLen; omega) (Nat.le_refl _) ?_); intro w1 hown hgrow)
  have hf1 : Fr N0 w w1 := (Fr.refl _ _).grown hgrow (fun k e => by cases e)
  have hr1 : w1.ownsRow w.heap.size 5 1 (.slice (some ⟨w.heap.size, 0, none⟩) n n) n ((List.replicate n (0 : Int) ++ be 0 x).map (Value.int .u8)) := by
    have e : (Value.int IntKind.u8 0).cells = #[.int .u8 0] := rfl
    rw [e, toList_madeCells_one] at hown
    simpa [be] using hown
  have HR1 := Lib.hid hr1; have HF1 := Lib.hid hf1
  clear hown hgrow hr1 hf1
  go_loopw [6] (fun iv wr => ∃ i : Nat, i ≤ n ∧ iv = .int .i64 i ∧ wr.ownsRow w.heap.size 5 1 (.slice (some ⟨w.heap.size, 0, none⟩) n n) n ((List.replicate (n - i) (0 : Int) ++ be i x).map (Value.int .u8)) ∧ Fr N0 w wr) (fun iv _ => n - (intOf iv).toNat)
  case atStart => exact ⟨0, Nat.zero_le _, rfl, HR1.out, HF1.out⟩
  case round =>
    obtain ⟨i, hin, rfl, hrow, hfr⟩ := hrel
    by_cases hlt : i < n
    · obtain ⟨j, hj⟩ : ∃ j, n = i + j + 1 := ⟨n - i - 1, by omega⟩
      have ec : wr.cell? ⟨w.heap.size, j, none⟩ = some (.int .u8 0) := by
        rw [hrow.cellAt j (by omega), List.getElem?_map, List.getElem?_append_left (by simp; omega), List.getElem?_replicate, if_pos (by omega)]; rfl
      have fc := hrow.frozenAt j
      have hst : (List.replicate (n - i) (0 : Int) ++ be i x).set j ((x / 256 ^ i % 256 : Nat) : Int) = List.replicate (n - (i + 1)) 0 ++ be (i + 1) x := by
        rw [show n - i = j + 1 by omega, set_rep, show n - (i + 1) = j by omega, be]
      have hpw : (2 : Int) ^ (8 * i) = ((256 ^ i : Nat) : Int) := pow256 i
      have hbt : ((x / 256 ^ i % 256 : Nat) : Int) = (x : Int) / 256 ^ i % 256 := by simp
      rw [hbt] at hst
      clear hbt
      have HST := Lib.hid hst; have HRW := Lib.hid hrow; have HFR := Lib.hid hfr
      clear hst hrow hfr
      go_wp2
      go_roundw
      case rel =>
        refine ⟨i + 1, by omega, by go_num, ?_, HFR.out.setCell (.inr (Nat.le_refl _)) _⟩
        rw [← HST.out, List.map_set]
        exact (HRW.out.stored j (.int .u8 ((x : Int) / 256 ^ i % 256))).1
      case measure => simp [intOf]; omega
    · obtain rfl : i = n := by omega
      have hcv : ∀ dst, Try.prog.underlying dst = some .string → (convert 79 dst (.slice (some ⟨w.heap.size, 0, none⟩) i i)).run Try.prog wr = .ok (.string (strOfNums (be i x))) wr := by
        refine run_convert_bytes_arg wr 79 5 Try.underlying79 (by kernel_rfl) w.heap.size 0 i i (be i x) (be_length _ _) fun k hk => ?_
        have hlt' : k < (be i x).length := by rw [be_length]; omega
        rw [Nat.zero_add, hrow.cellAt k (by omega)]
        simp only [Nat.sub_self, List.replicate_zero, List.nil_append, List.getElem?_map]
        rw [List.getElem?_eq_getElem hlt', List.getD, List.getElem?_eq_getElem hlt']
        rfl
      have hcv' := hcv 9 (by kernel_rfl)
      have HFR := Lib.hid hfr
      clear hcv hrow hfr
      go_wp2
      go_ret
      exact ⟨rfl, HFR.out⟩

theorem nb_pow : ∀ (k x : Nat), x / 256 ^ k = 0 ↔ nb x ≤ k
  | 0, x => by
    simp only [Nat.pow_zero, Nat.div_one]
    constructor
    · rintro rfl; rw [nb_zero]; exact Nat.le_refl _
    · intro h
      by_cases hx : x = 0
      · exact hx
      · rw [nb_step hx] at h; omega
  | k + 1, x => by
    by_cases hx : x = 0
    · subst hx; simp [nb_zero]
    · have := nb_pow k (x / 256)
      rw [nb_step hx, Nat.pow_succ, Nat.mul_comm, ← Nat.div_div_eq_div_mul, this]
      omega

theorem strOfNums_append (a b : List Int) : strOfNums a ++ strOfNums b = strOfNums (a ++ b) := by
  apply ByteArray.ext
  simp [strOfNums, ByteArray.data_append]

theorem alloc_keeps {W W1 : World} {v : Value} {t : TypeId} (hf : Fr N0 (W.alloc (.cells #[v] t)).drew W1) : W1.cell? ⟨W.heap.size, 0, none⟩ = some v :=
  cell_of_one ((((Fr.refl N0 (W.alloc (.cells #[v] t))).drew.then0 hf).at id (by simp)).trans (World.alloc_heap_new W _))

theorem one_byte (n : Nat) (W : World) (B : Nat) (hc : W.cell? ⟨B, 0, none⟩ = some (.int .u8 (n : Int))) :
    (convert 79 9 (.slice (some ⟨B, 0, none⟩) 1 1)).run Try.prog W = .ok (.string (strOfNums [(n : Int)])) W := by
  refine run_convert_bytes_arg W 79 5 Try.underlying79 (by kernel_rfl) B 0 1 1 [(n : Int)] rfl (fun k hk => ?_) 9 (by kernel_rfl)
  obtain rfl : k = 0 := by omega
  exact hc

set_option maxRecDepth 100000 in
set_option maxHeartbeats 1000000 in
theorem rnum_any (x : Nat) (hx : x < 18446744073709551616) (w : World) :
    Calls Try.prog 49 #[.int .u64 (x : Int)] w fun e w' => e = .returned (.string (strOfNums (num x))) ∧ Fr N0 w w' := by
  have hn8 : nb x ≤ 8 := nb_le 8 x (by simpa using hx)
  go_enter Try.func49, Try.ntmps49
  go_wp2
  go_loop [3] (fun kv => ∃ k : Nat, kv = .int .i64 k ∧ k ≤ nb x) (fun kv => 8 - (intOf kv).toNat)
  case atStart => exact ⟨0, by go_num, Nat.zero_le _⟩
  case round =>
    obtain ⟨k, rfl, hk⟩ := hrel
    have hpw : (2 : Int) ^ (8 * k) = ((256 ^ k : Nat) : Int) := pow256 k
    have hnp := nb_pow k x
    by_cases hkn : k = nb x
    · have h0 : (x : Int) / 256 ^ k = 0 := by
        have := hnp.2 (by omega)
        have e : ((x / 256 ^ k : Nat) : Int) = (x : Int) / 256 ^ k := by simp
        rw [← e, this]; rfl
      subst hkn
      obtain ⟨n, hn⟩ : ∃ n, nb x = n := ⟨_, rfl⟩
      have hnum : num x = (n : Int) :: be n x := by rw [num, hn]
      rw [hn] at hn8 h0 hpw ⊢
      have hfx := fun W => rfixed_any x n hx hn8 W
      have HNUM := Lib.hid hnum; have HFX := Lib.hid hfx
      clear hnum hn hnp hfx hk
      have hnw : IntKind.u8.wrap (n : Int) = (n : Int) := IntWalk.u8_in _ (by omega)
      have hob := one_byte n
      have hsum : ∀ W, (Op.stringOp .add (strOfNums [(n : Int)]) (strOfNums (be n x))).run Try.prog W = .ok (.string (strOfNums (num x))) W := fun W => by
        refine (run_string_add_sum W (strOfNums [(n : Int)]) (strOfNums (be n x)) (by simp only [strOfNums_size, be_length, List.length_cons, List.length_nil]; omega)).trans ?_
        rw [strOfNums_append, HNUM.out]; rfl
      by_cases h8 : (n : Int) < 8
      all_goals
        go_wp2
        go_region_with (first
          | (go_at_call 63; go_loud (refine (HFX.out _).mono ?_); rintro e w1 ⟨rfl, hf6⟩; (try have hcc : w1.cell? ⟨w.heap.size, 0, none⟩ = some (.int .u8 (n : Int)) := alloc_keeps hf6)))
        all_goals go_wp2
        all_goals go_ret
        all_goals first
          | exact ⟨rfl, ((Fr.refl _ _).drew).then0 hf6⟩
          | exact ⟨rfl, (((Fr.refl _ _).drew).then0 hf6).alloc _⟩
          | exact ⟨rfl, (((Fr.refl _ _).alloc _).drew).then0 hf6⟩
    · have h0 : ((x : Int) / 256 ^ k != 0) = true := by
        have h1 : x / 256 ^ k ≠ 0 := fun e => hkn (by have := hnp.1 e; omega)
        have e : ((x / 256 ^ k : Nat) : Int) = (x : Int) / 256 ^ k := by simp
        rw [← e]; simp only [bne_iff_ne, ne_eq]; omega
      have hk8 : (k : Int) < 8 := by omega
      clear hnp
      go_wp2
      go_round
      case rel => exact ⟨k + 1, by go_num, by omega⟩
      case measure => simp [intOf]; omega

end Go.Proofs.Ytldboadcglofaaa
