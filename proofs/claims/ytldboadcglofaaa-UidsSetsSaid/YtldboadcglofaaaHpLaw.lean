/- Plain laws of a heap that lies in a row. -/
import Derived.Test.YtldboadcglofaaaHeads
namespace Go.Proofs.Ytldboadcglofaaa
open Go.RowKit Go.Shelf
set_option linter.unusedVariables false
set_option linter.unusedSimpArgs false

def keyOf (H : List (Int × Nat)) (i : Nat) : Int := (H[i]?.map (·.1)).getD 0
def swp (K : Nat → Int) (i j : Nat) : Nat → Int := fun x => if x = i then K j else if x = j then K i else K x
/-- No one is below its parent. -/
def IsHp (K : Nat → Int) (n : Nat) : Prop := ∀ i, 0 < i → i < n → K ((i - 1) / 2) ≤ K i
def UpF (K : Nat → Int) (n j : Nat) : Prop := (∀ i, 0 < i → i < n → i ≠ j → K ((i - 1) / 2) ≤ K i) ∧ (0 < j → ∀ i, 0 < i → i < n → (i - 1) / 2 = j → K ((j - 1) / 2) ≤ K i)
def DownF (K : Nat → Int) (n i : Nat) : Prop := (∀ c, 0 < c → c < n → (c - 1) / 2 ≠ i → K ((c - 1) / 2) ≤ K c) ∧ (0 < i → ∀ c, 0 < c → c < n → (c - 1) / 2 = i → K ((i - 1) / 2) ≤ K c)

theorem up_done {K : Nat → Int} {n j : Nat} (h : UpF K n j) (hd : j = 0 ∨ ¬ K j < K ((j - 1) / 2)) : IsHp K n := fun i h0 hn => by
  by_cases e : i = j
  · subst e; omega
  · exact h.1 i h0 hn e

theorem up_step {K : Nat → Int} {n j : Nat} (h : UpF K n j) (h0 : 0 < j) (hn : j < n) (hlt : K j < K ((j - 1) / 2)) : UpF (swp K ((j - 1) / 2) j) n ((j - 1) / 2) := by
  obtain ⟨i, hi⟩ : ∃ i, (j - 1) / 2 = i := ⟨_, rfl⟩
  rw [hi] at hlt ⊢
  have hij : i < j := by omega
  refine ⟨fun k hk0 hkn hki => ?_, fun hi0 k hk0 hkn hkp => ?_⟩
  · unfold swp
    by_cases e1 : k = j
    · subst e1
      rw [hi, if_pos rfl, if_neg (by omega), if_pos rfl]; omega
    · by_cases e2 : (k - 1) / 2 = j
      · have := h.2 h0 k hk0 hkn e2
        rw [hi] at this
        rw [if_neg (by omega), if_pos e2, if_neg hki, if_neg e1]; exact this
      · by_cases e3 : (k - 1) / 2 = i
        · have := h.1 k hk0 hkn e1
          rw [e3] at this
          rw [if_pos e3, if_neg hki, if_neg e1]; omega
        · have := h.1 k hk0 hkn e1
          rw [if_neg e3, if_neg e2, if_neg hki, if_neg e1]; exact this
  · unfold swp
    have h1 := h.1 i hi0 (by omega) (by omega)
    rw [if_neg (show ¬ (i - 1) / 2 = i by omega), if_neg (show ¬ (i - 1) / 2 = j by omega), if_neg (show ¬ k = i by omega)]
    by_cases e1 : k = j
    · rw [if_pos e1]; exact h1
    · rw [if_neg e1]
      have := h.1 k hk0 hkn e1
      rw [hkp] at this
      omega

theorem down_done {K : Nat → Int} {n i : Nat} (h : DownF K n i) (hd : ∀ c, c < n → (c = 2 * i + 1 ∨ c = 2 * i + 2) → K i ≤ K c) : IsHp K n := fun c h0 hn => by
  by_cases e : (c - 1) / 2 = i
  · rw [e]; exact hd c hn (by omega)
  · exact h.1 c h0 hn e

theorem down_step {K : Nat → Int} {n i j : Nat} (h : DownF K n i) (hj : j = 2 * i + 1 ∨ j = 2 * i + 2) (hn : j < n) (hmin : ∀ c, c < n → (c = 2 * i + 1 ∨ c = 2 * i + 2) → K j ≤ K c) (hlt : K j < K i) : DownF (swp K i j) n j := by
  have hp : (j - 1) / 2 = i := by omega
  refine ⟨fun c h0 hcn hc => ?_, fun h0 c hc0 hcn hc => ?_⟩
  · unfold swp
    by_cases e1 : c = j
    · subst e1
      rw [hp, if_pos rfl, if_neg (by omega), if_pos rfl]; omega
    · by_cases e2 : (c - 1) / 2 = i
      · rw [if_pos e2, if_neg (by omega), if_neg e1]
        exact hmin c hcn (by omega)
      · by_cases e3 : c = i
        · subst e3
          rw [if_neg e2, if_neg hc, if_pos rfl]
          exact h.2 h0 j (by omega) hn hp
        · rw [if_neg e2, if_neg hc, if_neg e3, if_neg e1]
          exact h.1 c h0 hcn e2
  · unfold swp
    rw [hp, if_pos rfl, if_neg (by omega), if_neg (by omega)]
    have := h.1 c hc0 hcn (by omega)
    rw [hc] at this
    exact this

theorem hp_min {K : Nat → Int} {n : Nat} (h : IsHp K n) : ∀ i, i < n → K 0 ≤ K i := by
  intro i
  induction i using Nat.strongRecOn with
  | ind i ih =>
    intro hn
    by_cases h0 : i = 0
    · subst h0; exact Int.le_refl _
    · exact Int.le_trans (ih ((i - 1) / 2) (by omega) (by omega)) (h i (by omega) hn)

theorem keyOf_get {H : List (Int × Nat)} {i : Nat} (h : i < H.length) : keyOf H i = H[i].1 := by simp [keyOf, List.getElem?_eq_getElem h]

theorem swapH_eq {H : List (Int × Nat)} {i k : Nat} (hi : i < H.length) (hk : k < H.length) : swapH H i k = (H.set i H[k]).set k H[i] := by
  simp [swapH, List.getElem?_eq_getElem hi, List.getElem?_eq_getElem hk]
theorem swapH_length {H : List (Int × Nat)} {i k : Nat} (hi : i < H.length) (hk : k < H.length) : (swapH H i k).length = H.length := by
  rw [swapH_eq hi hk]; simp
theorem swapH_get {H : List (Int × Nat)} {i k : Nat} (hi : i < H.length) (hk : k < H.length) (x : Nat) : (swapH H i k)[x]? = if x = i then H[k]? else if x = k then H[i]? else H[x]? := by
  rw [swapH_eq hi hk, List.getElem?_set, List.getElem?_set]
  simp only [List.length_set]
  by_cases e1 : x = i
  · subst e1
    by_cases e2 : k = x
    · subst e2; simp [hk]
    · rw [if_neg e2, if_pos rfl, if_pos hi, if_pos rfl, List.getElem?_eq_getElem hk]
  · by_cases e2 : x = k
    · subst e2
      rw [if_pos rfl, if_pos hk, if_neg e1, if_pos rfl, List.getElem?_eq_getElem hi]
    · rw [if_neg (fun e => e2 e.symm), if_neg (fun e => e1 e.symm), if_neg e1, if_neg e2]
theorem swapH_key {H : List (Int × Nat)} {i k : Nat} (hi : i < H.length) (hk : k < H.length) : keyOf (swapH H i k) = swp (keyOf H) i k := by
  funext x
  unfold keyOf swp
  rw [swapH_get hi hk]
  split
  · rfl
  · split
    · rfl
    · rfl
theorem swapH_perm {H : List (Int × Nat)} {i k : Nat} (hi : i < H.length) (hk : k < H.length) : (swapH H i k).Perm H := by
  rw [swapH_eq hi hk]
  exact List.set_set_perm hi hk

end Go.Proofs.Ytldboadcglofaaa
