/- Plain laws: a list's bytes are read as the list, and what bytes are read as has these bytes. -/
import Derived.Test.YtldboadcglofaaaRNum
import Derived.Test.YtldboadcglofaaaRead
namespace Go.Proofs.Ytldboadcglofaaa
open Go.RowKit Go.Shelf
set_option linter.unusedVariables false
set_option linter.unusedSimpArgs false

/-- A number read off the head of bytes. -/
def rdL : List Nat → Option (Nat × List Nat)
  | [] => none
  | b :: l => if 8 < b ∨ l.length < b ∨ (0 < b ∧ l.head? = some 0) then none else some (bigOf (l.take b), l.drop b)

def beN : Nat → Nat → List Nat
  | 0, _ => []
  | m + 1, x => x / 256 ^ m % 256 :: beN m x
def numN (x : Nat) : List Nat := nb x :: beN (nb x) x

theorem beN_length : ∀ m x, (beN m x).length = m
  | 0, _ => rfl
  | m + 1, x => by simp [beN, beN_length m x]
theorem be_toNat : ∀ m x, (be m x).map Int.toNat = beN m x
  | 0, _ => rfl
  | m + 1, x => by simp only [be, beN, List.map_cons, be_toNat m x, Int.toNat_natCast]
theorem num_toNat (x : Nat) : (num x).map Int.toNat = numN x := by
  simp only [num, numN, List.map_cons, be_toNat, Int.toNat_natCast]

theorem fold_acc : ∀ (l : List Nat) (acc : Nat), l.foldl (fun x b => x * 256 + b) acc = acc * 256 ^ l.length + bigOf l
  | [], acc => by simp [bigOf]
  | b :: l, acc => by
    have h1 := fold_acc l (acc * 256 + b)
    have h2 := fold_acc l (0 * 256 + b)
    simp only [bigOf, List.foldl_cons, List.length_cons] at h1 h2 ⊢
    rw [h1, h2, Nat.pow_succ]
    simp only [Nat.zero_mul, Nat.zero_add, Nat.add_mul, Nat.mul_assoc, Nat.mul_comm 256, Nat.add_assoc]
theorem bigOf_cons (b : Nat) (l : List Nat) : bigOf (b :: l) = b * 256 ^ l.length + bigOf l := by
  have := fold_acc l b
  unfold bigOf at this ⊢
  simpa using this

theorem bigOf_be : ∀ m x, bigOf (beN m x) = x % 256 ^ m
  | 0, x => by simp [beN, bigOf, Nat.mod_one]
  | m + 1, x => by
    rw [beN, bigOf_cons, bigOf_be m x, beN_length, Nat.pow_succ, Nat.mod_mul, Nat.mul_comm, Nat.add_comm]

theorem nb_lt (x : Nat) : x < 256 ^ nb x := by
  have := (nb_pow (nb x) x).2 (Nat.le_refl _)
  rcases Nat.div_eq_zero_iff.1 this with h | h
  · have : 0 < 256 ^ nb x := Nat.pow_pos (by omega)
    omega
  · exact h

theorem rdL_num (x : Nat) (hx : x < 18446744073709551616) (t : List Nat) : rdL (numN x ++ t) = some (x, t) := by
  have h8 := nb_le 8 x (by simpa using hx)
  rw [numN, List.cons_append, rdL, if_neg, List.take_left' (beN_length _ _), List.drop_left' (beN_length _ _), bigOf_be, Nat.mod_eq_of_lt (nb_lt x)]
  simp only [List.length_append, beN_length]
  rintro (h | h | ⟨h1, h2⟩)
  · omega
  · omega
  · obtain ⟨k, hk⟩ : ∃ k, nb x = k + 1 := ⟨nb x - 1, by omega⟩
    rw [hk, beN, List.cons_append, List.head?_cons] at h2
    simp only [Option.some.injEq] at h2
    have h3 : ¬ x / 256 ^ k = 0 := fun e => by have := (nb_pow k x).1 e; omega
    have h4 : x / 256 ^ k / 256 = 0 := by
      rw [Nat.div_div_eq_div_mul, ← Nat.pow_succ]; exact (nb_pow (k + 1) x).2 (by omega)
    omega

theorem be_bigOf : ∀ (c : List Nat) (y : Nat), (∀ b ∈ c, b < 256) → beN c.length (y * 256 ^ c.length + bigOf c) = c
  | [], y, _ => rfl
  | b :: c, y, h => by
    have hb := h b (by simp)
    have hlt := bigOf_lt (l := c) fun d hd => h d (by simp [hd])
    have hp : 0 < 256 ^ c.length := Nat.pow_pos (by omega)
    have e : y * 256 ^ (b :: c).length + bigOf (b :: c) = (y * 256 + b) * 256 ^ c.length + bigOf c := by
      rw [bigOf_cons, List.length_cons, Nat.pow_succ, Nat.add_mul, Nat.mul_assoc, Nat.mul_comm 256, Nat.add_assoc]
    rw [e, List.length_cons, beN, be_bigOf c (y * 256 + b) fun d hd => h d (by simp [hd])]
    rw [Nat.mul_comm, Nat.mul_add_div hp, Nat.div_eq_of_lt hlt]
    congr 1
    omega

theorem nb_bigOf (c : List Nat) (h : ∀ b ∈ c, b < 256) (h0 : c.head? ≠ some 0) : nb (bigOf c) = c.length := by
  have hlt := bigOf_lt (l := c) h
  have h1 := nb_le c.length (bigOf c) hlt
  cases c with
  | nil => simp [bigOf, nb_zero]
  | cons b c =>
    have hb : b ≠ 0 := fun e => h0 (by simp [e])
    have h2 : ¬ nb (bigOf (b :: c)) ≤ c.length := fun hle => by
      have := (nb_pow c.length _).2 hle
      rw [bigOf_cons] at this
      have hp : 0 < 256 ^ c.length := Nat.pow_pos (by omega)
      rcases Nat.div_eq_zero_iff.1 this with h' | h'
      · omega
      · have : 256 ^ c.length ≤ b * 256 ^ c.length := Nat.le_mul_of_pos_left _ (by omega)
        omega
    simp only [List.length_cons] at h1 ⊢
    omega

theorem rdL_back {s t : List Nat} {x : Nat} (h : rdL s = some (x, t)) (hb : ∀ b ∈ s, b < 256) : s = numN x ++ t := by
  cases s with
  | nil => cases h
  | cons b l =>
    rw [rdL] at h
    split at h
    · cases h
    · rename_i hc
      simp only [Option.some.injEq, Prod.mk.injEq] at h
      obtain ⟨rfl, rfl⟩ := h
      have hlen : (l.take b).length = b := by rw [List.length_take]; omega
      have hbt : ∀ d ∈ l.take b, d < 256 := fun d hd => hb d (List.mem_cons_of_mem _ (List.mem_of_mem_take hd))
      have hnb : nb (bigOf (l.take b)) = b := by
        rw [nb_bigOf _ hbt, hlen]
        intro e
        cases b with
        | zero => simp at e
        | succ b =>
          cases l with
          | nil => simp at e
          | cons d l => simp at e; exact hc (.inr (.inr ⟨by omega, by simp [e]⟩))
      have := be_bigOf (l.take b) 0 hbt
      rw [hlen] at this
      simp only [Nat.zero_mul, Nat.zero_add] at this
      rw [numN, hnb, this, List.cons_append, List.take_append_drop]

theorem bts_inj {s t : ByteArray} (h : bts s = bts t) : s = t := by
  apply ByteArray.ext
  apply Array.toList_inj.1
  unfold bts at h
  exact (List.map_inj_right (fun a b e => UInt8.toNat.inj e)).1 h

theorem bts_strOfNums {xs : List Int} (h : ∀ b ∈ xs, 0 ≤ b ∧ b < 256) : bts (strOfNums xs) = xs.map Int.toNat := by
  unfold bts
  rw [strOfNums_data, List.map_map]
  apply List.map_congr_left
  intro b hb
  have := h b hb
  simp only [Function.comp_apply, UInt8.toNat_ofNat']
  omega

theorem bts_rest {s : ByteArray} {b : Nat} {l : List Nat} (hb : bts s = b :: l) : bts (s.extract (1 + b) s.size) = l.drop b := by
  have hl := bts_length s
  rw [hb] at hl
  simp only [List.length_cons] at hl
  rw [bts_extract, hb, Nat.add_comm 1 b, List.drop_succ_cons, List.take_of_length_le (by rw [List.length_drop]; omega)]

theorem rd_of_L {s t : ByteArray} {x : Nat} (h : rdL (bts s) = some (x, bts t)) : rd s = some (x, t) := by
  unfold rd
  split
  · rename_i hb; rw [hb] at h; cases h
  · rename_i b l hb
    rw [hb, rdL] at h
    split at h
    · cases h
    · rename_i hc
      rw [if_neg hc]
      simp only [Option.some.injEq, Prod.mk.injEq] at h ⊢
      exact ⟨h.1, bts_inj (by rw [bts_rest hb, h.2])⟩

theorem L_of_rd {s t : ByteArray} {x : Nat} (h : rd s = some (x, t)) : rdL (bts s) = some (x, bts t) := by
  unfold rd at h
  split at h
  · cases h
  · rename_i b l hb
    rw [hb, rdL]
    split at h
    · cases h
    · rename_i hc
      rw [if_neg hc]
      simp only [Option.some.injEq, Prod.mk.injEq] at h ⊢
      exact ⟨h.1, by rw [← h.2, bts_rest hb]⟩

/-- The bytes of a list's numbers, k of them, from place i on. -/
def tailN (l : List Int) : Nat → Nat → List Nat
  | 0, _ => []
  | k + 1, i => numN (stepOf l i) ++ tailN l k (i + 1)

theorem tailN_flat (l : List Int) : ∀ k i, tailN l k i = (List.range' i k).flatMap fun j => numN (stepOf l j)
  | 0, i => rfl
  | k + 1, i => by rw [tailN, tailN_flat l k (i + 1), List.range'_succ, List.flatMap_cons]

theorem bytesOf_toNat (l : List Int) : (bytesOf l).map Int.toNat = numN l.length ++ tailN l l.length 0 := by
  rw [bytesOf, preOf, List.map_append, num_toNat, List.map_flatMap, tailN_flat, List.range_eq_range']
  simp only [num_toNat]

theorem bytesOf_byte {l : List Int} (hp : ∀ x ∈ l, 0 < x ∧ x < 18446744073709551616) (hl : l.length < 18446744073709551616) : ∀ b ∈ bytesOf l, 0 ≤ b ∧ b < 256 := by
  intro b hb
  rw [bytesOf, preOf] at hb
  rcases List.mem_append.1 hb with h | h
  · exact num_byte _ hl b h
  · obtain ⟨i, _, h⟩ := List.mem_flatMap.1 h
    exact num_byte _ (stepOf_lt hp i) b h

theorem last_take {l : List Int} {j : Nat} (hj : j < l.length) : lastOf (l.take (j + 1)) = l[j] := by
  have : (l.take (j + 1)).length = j + 1 := by simp; omega
  rw [lastOf, List.getLast?_eq_getElem?, this, Nat.add_sub_cancel, List.getElem?_take, if_pos (by omega), List.getElem?_eq_getElem hj, Option.getD_some]

theorem nextOf_step {l : List Int} (hs : l.Pairwise (· < ·)) (hp : ∀ x ∈ l, 0 < x ∧ x < 18446744073709551616) {i : Nat} (hi : i < l.length) : nextOf (l.take i) (stepOf l i) = l[i] ∧ ¬ l[i] ≤ lastOf (l.take i) := by
  have h1 := hp _ (List.getElem_mem hi)
  have hlen : (l.take i).length = i := by simp; omega
  cases i with
  | zero =>
    refine ⟨?_, by simp [lastOf]; omega⟩
    simp [nextOf, stepOf, List.getElem?_eq_getElem hi]; omega
  | succ j =>
    have hj : j < l.length := by omega
    have h2 := hp _ (List.getElem_mem hj)
    have h3 := List.pairwise_iff_getElem.1 hs j (j + 1) hj hi (by omega)
    unfold nextOf stepOf
    rw [hlen, last_take hj]
    simp only [List.getD_eq_getElem?_getD, List.getElem?_eq_getElem hi, Nat.add_sub_cancel, List.getElem?_eq_getElem hj, Option.getD_some]
    refine ⟨?_, by omega⟩
    split <;> omega

theorem rd_some {s : ByteArray} {x : Nat} {r : List Nat} (h : rdL (bts s) = some (x, r)) : ∃ t, rd s = some (x, t) ∧ bts t = r := by
  cases hb : bts s with
  | nil => rw [hb] at h; cases h
  | cons b l =>
    have hr := bts_rest hb
    have h' : l.drop b = r := by
      rw [hb, rdL] at h
      split at h
      · cases h
      · simp only [Option.some.injEq, Prod.mk.injEq] at h; exact h.2
    exact ⟨s.extract (1 + b) s.size, rd_of_L (by rw [hr, h', h]), by rw [hr, h']⟩

theorem rdMore_tail {l : List Int} (hs : l.Pairwise (· < ·)) (hp : ∀ x ∈ l, 0 < x ∧ x < 18446744073709551616) :
    ∀ (k i : Nat) (s : ByteArray), i + k = l.length → bts s = tailN l k i → ∃ e, rdMore k (l.take i) s = some (l, e) ∧ e.size = 0
  | 0, i, s, hi, hb => ⟨s, by rw [rdMore, List.take_of_length_le (by omega)], by rw [← bts_length, hb]; rfl⟩
  | k + 1, i, s, hi, hb => by
    have hil : i < l.length := by omega
    rw [tailN] at hb
    obtain ⟨t, ht, hbt⟩ := rd_some (s := s) (by rw [hb]; exact rdL_num _ (stepOf_lt hp i) _)
    obtain ⟨h1, h2⟩ := nextOf_step hs hp hil
    obtain ⟨e, he, hz⟩ := rdMore_tail hs hp k (i + 1) t (by omega) hbt
    refine ⟨e, ?_, hz⟩
    rw [rdMore, ht]
    simp only [h1, if_neg h2]
    rw [← he, List.take_add_one, List.getElem?_eq_getElem hil]
    rfl

/-- A list's bytes are read as the list. -/
theorem rdList_bytes {l : List Int} (hs : l.Pairwise (· < ·)) (hp : ∀ x ∈ l, 0 < x ∧ x < 18446744073709551616) (hl : l.length < 18446744073709551616) : rdList (strOfNums (bytesOf l)) = some l := by
  have hb := bts_strOfNums (bytesOf_byte hp hl)
  rw [bytesOf_toNat] at hb
  obtain ⟨t, ht, hbt⟩ := rd_some (s := strOfNums (bytesOf l)) (by rw [hb]; exact rdL_num _ hl _)
  obtain ⟨e, he, hz⟩ := rdMore_tail hs hp l.length 0 t (by omega) hbt
  rw [rdList, ht]
  simp only [List.take_zero] at he
  simp only [he, hz, if_true]

theorem rdMore_back : ∀ (k : Nat) (l : List Int) (s : ByteArray) (r : List Int) (t : ByteArray), rdMore k l s = some (r, t) → (∀ x ∈ l, 0 < x ∧ x < 18446744073709551616) →
    bts s = tailN r k l.length ++ bts t ∧ r.length = l.length + k ∧ r.take l.length = l ∧ ∀ x ∈ r, 0 < x ∧ x < 18446744073709551616
  | 0, l, s, r, t, h, hl => by
    rw [rdMore] at h
    simp only [Option.some.injEq, Prod.mk.injEq] at h
    obtain ⟨rfl, rfl⟩ := h
    exact ⟨rfl, rfl, List.take_length, hl⟩
  | k + 1, l, s, r, t, h, hl => by
    rw [rdMore] at h
    split at h
    · cases h
    · rename_i x t1 hrd
      split at h
      · cases h
      · rename_i hle
        have hx := rd_lt hrd
        have hla := last_bounds hl
        have hu : nextOf l x < 18446744073709551616 := by unfold nextOf; split <;> omega
        obtain ⟨h1, h2, h3, h4⟩ := rdMore_back k (l ++ [nextOf l x]) t1 r t h (by
          intro y hy
          rcases List.mem_append.1 hy with hy | hy
          · exact hl y hy
          · simp only [List.mem_singleton] at hy; omega)
        rw [List.length_append, List.length_singleton] at h1 h2 h3
        have hs := rdL_back (L_of_rd hrd) (bts_lt s)
        have hlr : l.length < r.length := by omega
        have hget : r[l.length]? = some (nextOf l x) := by
          have := congrArg (fun z => z[l.length]?) h3
          simpa [List.getElem?_take] using this
        have hst : stepOf r l.length = x := by
          unfold stepOf
          simp only [List.getD_eq_getElem?_getD, hget, Option.getD_some]
          by_cases h32 : l.length % 32 = 0
          · rw [if_pos h32]; unfold nextOf; rw [if_pos h32]; omega
          · rw [if_neg h32]
            have hpos : l.length - 1 < l.length := by omega
            have hg2 : r[l.length - 1]? = some (lastOf l) := by
              have := congrArg (fun z => z[l.length - 1]?) h3
              simp only [List.getElem?_take] at this
              rw [if_pos (by omega), List.getElem?_append_left hpos] at this
              rw [this, lastOf, List.getLast?_eq_getElem?, List.getElem?_eq_getElem hpos]; rfl
            rw [hg2, Option.getD_some]
            unfold nextOf at hle ⊢
            rw [if_neg h32] at hle ⊢
            omega
        refine ⟨?_, by omega, ?_, h4⟩
        · rw [tailN, hst, hs, h1, List.append_assoc]
        · have := congrArg (fun z => z.take l.length) h3
          simpa [List.take_take] using this

/-- What bytes are read as has these bytes. -/
theorem bytes_rdList {s : ByteArray} {l : List Int} (h : rdList s = some l) : strOfNums (bytesOf l) = s := by
  unfold rdList at h
  split at h
  · cases h
  · rename_i n t hrd
    split at h
    · cases h
    · rename_i r t' hm
      split at h
      · rename_i hz
        simp only [Option.some.injEq] at h
        subst h
        obtain ⟨h1, h2, h3, h4⟩ := rdMore_back n [] t r t' hm (by simp)
        have hn := rd_lt hrd
        have hs := rdL_back (L_of_rd hrd) (bts_lt s)
        simp only [List.length_nil, Nat.zero_add] at h1 h2
        have ht' : bts t' = [] := List.eq_nil_of_length_eq_zero (by rw [bts_length]; exact hz)
        apply bts_inj
        rw [bts_strOfNums (bytesOf_byte h4 (by omega)), bytesOf_toNat, h2, hs, h1, ht', List.append_nil]
      · cases h

end Go.Proofs.Ytldboadcglofaaa
