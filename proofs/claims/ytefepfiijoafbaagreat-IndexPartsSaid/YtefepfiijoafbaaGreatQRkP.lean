/- index.edged: whether Edges or Count may be asked. Ranked nodes, plainly: their order by a number; a heap of them. -/
import Derived.Test.YtefepfiijoafbaaGreatQCopy
import Derived.Test.YtefepfiijoafbaaGreatQEq4
import Derived.Test.YtefepfiijoafbaaGreatQDelW
namespace Go.Proofs.YtefepfiijoafbaaGreat
open Go.RowKit Go.Shelf Go.Maps
attribute [local go_sem] Oper.semAt_some
attribute [local irreducible] wpQuiet
set_option linter.unusedVariables false
set_option linter.unusedSimpArgs false

def edgedR (va bk n4 rev lt : Bool) : Int := if (va && n4) || (bk && (n4 || !rev)) then 191 else if lt then 181 else 0
set_option maxRecDepth 100000 in
set_option maxHeartbeats 4000000 in
theorem edged_any (W : World) (R : Nat → Prop) (p : Nat) (l : PL) (h : IsPL W R p l) (hs : 0 < l.s.pred.size) (t : Int) (va bk : Bool) :
    Calls Tryz.prog 100 #[.pointer (some ⟨p, 0, none⟩), .int .u64 t, .bool va, .bool bk] W fun e w' => e = .returned (.int .i64 (edgedR va bk (l.s.ty != 4) l.s.rev (decide (t < l.marked)))) ∧ Fr N0 W w' := by
  have hsc := schema_any W R p l h hs
  have hmk := fun w1 (hf : Fr N0 W w1) => marked_any w1 R p l (h.fr hf fun _ _ => id) hs
  have HSC := Lib.hid hsc; have HMK := Lib.hid hmk
  clear hsc hmk h
  obtain ⟨⟨sp, st, sl, se, sm, so, sr, sc⟩, mk, ts, cms⟩ := l
  simp only [Sch.enc] at *
  have h1 : ¬ sp.toList = [] := by
    intro h
    have : sp.toList.length = 0 := by rw [h]; rfl
    rw [ByteArray.toList_eq, Array.length_toList] at this
    have e : sp.data.size = sp.size := rfl
    omega
  have h2 : (!sp.toList.isEmpty) = true := by simpa using h1
  have h3 : sp.toList.isEmpty = false := by simpa using h1
  clear hs
  obtain ⟨n4, hn4⟩ : ∃ x, (st != 4) = x := ⟨_, rfl⟩
  rw [hn4]
  by_cases hlt : t < mk
  all_goals
    cases va <;> cases bk <;> cases n4 <;> cases sr
  all_goals
    go_enter Tryz.func100, Tryz.ntmps100
    go_wp2_with (first
      | (go_at_call 81; refine HSC.out.mono ?_; rintro e w1 ⟨rfl, hf1⟩)
      | (go_at_call 82; refine (HMK.out _ (hf1.alloc _)).mono ?_; rintro e w2 ⟨rfl, hf2⟩; have hft2 := (hf1.alloc _).then0 hf2))
    (try go_ret)
    first
      | exact ⟨by simp [edgedR, hlt], hft2⟩
      | exact ⟨by simp [edgedR, hlt], hf1.alloc _⟩
end Go.Proofs.YtefepfiijoafbaaGreat
namespace Go.Proofs.YtefepfiijoafbaaGreat
open Go.RowKit Go.Shelf
set_option linter.unusedVariables false
set_option linter.unusedSimpArgs false

structure Rk where
  uid : Int
  n : Int
  some : Bool
def Rk.enc (r : Rk) : List Value := [.int .u64 r.uid, .int .i64 r.n, .bool r.some]
structure Rk.Ok (r : Rk) : Prop where
  u : 0 ≤ r.uid ∧ r.uid < 18446744073709551616
  n : -9223372036854775808 ≤ r.n ∧ r.n < 9223372036854775808
def rkKey (down : Bool) (r : Rk) : Int := if r.some then (if down then -r.n else r.n) * 18446744073709551616 + r.uid else 1000000000000000000000000000000000000000000000000 + r.uid
def rkLess (down : Bool) (a b : Rk) : Bool :=
  if a.some != b.some then a.some else if a.some && (a.n != b.n) then (decide (a.n < b.n) != down) else decide (a.uid < b.uid)
theorem rkLess_key (down : Bool) {a b : Rk} (ha : a.Ok) (hb : b.Ok) : rkLess down a b = decide (rkKey down a < rkKey down b) := by
  obtain ⟨⟨a1, a2⟩, a3, a4⟩ := ha
  obtain ⟨⟨b1, b2⟩, b3, b4⟩ := hb
  obtain ⟨au, an, sa⟩ := a
  obtain ⟨bu, bn, sb⟩ := b
  simp only at *
  unfold rkLess rkKey
  cases sa <;> cases sb <;> cases down <;> simp only [bne_self_eq_false, Bool.bne_false, Bool.bne_true, Bool.false_and, Bool.true_and, Bool.not_true, Bool.not_false, Bool.false_eq_true, if_true, if_false, Bool.false_bne, Bool.true_bne]
  all_goals
    first
      | (congr 1; rw [eq_iff_iff]; omega)
      | (symm; rw [decide_eq_true_iff]; omega)
      | (symm; rw [decide_eq_false_iff_not]; omega)
      | (by_cases e : an = bn
         · subst e; simp; try omega
         · have e' : (an != bn) = true := by simpa using e
           rw [if_pos e']
           first
             | (congr 1; rw [eq_iff_iff]; omega)
             | (rw [Bool.eq_iff_iff]; simp only [Bool.not_eq_true', decide_eq_false_iff_not, decide_eq_true_eq]; omega))

def keyAt (down : Bool) (H : List Rk) (i : Nat) : Int := (H[i]?.map (rkKey down)).getD 0
def swp (K : Nat → Int) (i j : Nat) : Nat → Int := fun x => if x = i then K j else if x = j then K i else K x
/-- No one is below its parent. -/
def IsHp (K : Nat → Int) (n : Nat) : Prop := ∀ i, 0 < i → i < n → K ((i - 1) / 2) ≤ K i
def UpF (K : Nat → Int) (n j : Nat) : Prop := (∀ i, 0 < i → i < n → i ≠ j → K ((i - 1) / 2) ≤ K i) ∧ (0 < j → ∀ i, 0 < i → i < n → (i - 1) / 2 = j → K ((j - 1) / 2) ≤ K i)
def DownF (K : Nat → Int) (n i : Nat) : Prop := (∀ c, 0 < c → c < n → (c - 1) / 2 ≠ i → K ((c - 1) / 2) ≤ K c) ∧ (0 < i → ∀ c, 0 < c → c < n → (c - 1) / 2 = i → K ((i - 1) / 2) ≤ K c)

theorem up_done {K : Nat → Int} {n j : Nat} (h : UpF K n j) (hd : j = 0 ∨ ¬ K j < K ((j - 1) / 2)) : IsHp K n := fun i h0 hn => by
  by_cases e : i = j
  · subst e; omega
  · exact h.1 i h0 hn e

theorem up_step {K : Nat → Int} {n j : Nat} (h : UpF K n j) (h0 : 0 < j) (hn : j < n) (hlt : K j < K ((j - 1) / 2)) : UpF (swp K ((j - 1) / 2) j) n ((j - 1) / 2) := by
  obtain ⟨i, hi⟩ : ∃ i, (j - 1) / 2 = i := ⟨_, rfl⟩
  rw [hi] at hlt ⊢
  have hij : i < j := by omega
  refine ⟨fun k hk0 hkn hki => ?_, fun hi0 k hk0 hkn hkp => ?_⟩
  · unfold swp
    by_cases e1 : k = j
    · subst e1
      rw [hi, if_pos rfl, if_neg (by omega), if_pos rfl]; omega
    · by_cases e2 : (k - 1) / 2 = j
      · have := h.2 h0 k hk0 hkn e2
        rw [hi] at this
        rw [if_neg (by omega), if_pos e2, if_neg hki, if_neg e1]; exact this
      · by_cases e3 : (k - 1) / 2 = i
        · have := h.1 k hk0 hkn e1
          rw [e3] at this
          rw [if_pos e3, if_neg hki, if_neg e1]; omega
        · have := h.1 k hk0 hkn e1
          rw [if_neg e3, if_neg e2, if_neg hki, if_neg e1]; exact this
  · unfold swp
    have h1 := h.1 i hi0 (by omega) (by omega)
    rw [if_neg (show ¬ (i - 1) / 2 = i by omega), if_neg (show ¬ (i - 1) / 2 = j by omega), if_neg (show ¬ k = i by omega)]
    by_cases e1 : k = j
    · rw [if_pos e1]; exact h1
    · rw [if_neg e1]
      have := h.1 k hk0 hkn e1
      rw [hkp] at this
      omega

theorem down_done {K : Nat → Int} {n i : Nat} (h : DownF K n i) (hd : ∀ c, c < n → (c = 2 * i + 1 ∨ c = 2 * i + 2) → K i ≤ K c) : IsHp K n := fun c h0 hn => by
  by_cases e : (c - 1) / 2 = i
  · rw [e]; exact hd c hn (by omega)
  · exact h.1 c h0 hn e

theorem down_step {K : Nat → Int} {n i j : Nat} (h : DownF K n i) (hj : j = 2 * i + 1 ∨ j = 2 * i + 2) (hn : j < n) (hmin : ∀ c, c < n → (c = 2 * i + 1 ∨ c = 2 * i + 2) → K j ≤ K c) (hlt : K j < K i) : DownF (swp K i j) n j := by
  have hp : (j - 1) / 2 = i := by omega
  refine ⟨fun c h0 hcn hc => ?_, fun h0 c hc0 hcn hc => ?_⟩
  · unfold swp
    by_cases e1 : c = j
    · subst e1
      rw [hp, if_pos rfl, if_neg (by omega), if_pos rfl]; omega
    · by_cases e2 : (c - 1) / 2 = i
      · rw [if_pos e2, if_neg (by omega), if_neg e1]
        exact hmin c hcn (by omega)
      · by_cases e3 : c = i
        · subst e3
          rw [if_neg e2, if_neg hc, if_pos rfl]
          exact h.2 h0 j (by omega) hn hp
        · rw [if_neg e2, if_neg hc, if_neg e3, if_neg e1]
          exact h.1 c h0 hcn e2
  · unfold swp
    rw [hp, if_pos rfl, if_neg (by omega), if_neg (by omega)]
    have := h.1 c hc0 hcn (by omega)
    rw [hc] at this
    exact this

theorem hp_min {K : Nat → Int} {n : Nat} (h : IsHp K n) : ∀ i, i < n → K 0 ≤ K i := by
  intro i
  induction i using Nat.strongRecOn with
  | ind i ih =>
    intro hn
    by_cases h0 : i = 0
    · subst h0; exact Int.le_refl _
    · exact Int.le_trans (ih ((i - 1) / 2) (by omega) (by omega)) (h i (by omega) hn)

theorem keyAt_get {down : Bool} {H : List Rk} {i : Nat} (h : i < H.length) : keyAt down H i = rkKey down H[i] := by simp [keyAt, List.getElem?_eq_getElem h]
def swapR (H : List Rk) (i k : Nat) : List Rk := match H[i]?, H[k]? with
  | some p, some q => (H.set i q).set k p
  | _, _ => H
theorem swapR_eq {H : List Rk} {i k : Nat} (hi : i < H.length) (hk : k < H.length) : swapR H i k = (H.set i H[k]).set k H[i] := by
  simp [swapR, List.getElem?_eq_getElem hi, List.getElem?_eq_getElem hk]
theorem swapR_length {H : List Rk} {i k : Nat} (hi : i < H.length) (hk : k < H.length) : (swapR H i k).length = H.length := by
  rw [swapR_eq hi hk]; simp
theorem swapR_get {H : List Rk} {i k : Nat} (hi : i < H.length) (hk : k < H.length) (x : Nat) : (swapR H i k)[x]? = if x = i then H[k]? else if x = k then H[i]? else H[x]? := by
  rw [swapR_eq hi hk, List.getElem?_set, List.getElem?_set]
  simp only [List.length_set]
  by_cases e1 : x = i
  · subst e1
    by_cases e2 : k = x
    · subst e2; simp [hk]
    · rw [if_neg e2, if_pos rfl, if_pos hi, if_pos rfl, List.getElem?_eq_getElem hk]
  · by_cases e2 : x = k
    · subst e2
      rw [if_pos rfl, if_pos hk, if_neg e1, if_pos rfl, List.getElem?_eq_getElem hi]
    · rw [if_neg (fun e => e2 e.symm), if_neg (fun e => e1 e.symm), if_neg e1, if_neg e2]
theorem swapR_key {down : Bool} {H : List Rk} {i k : Nat} (hi : i < H.length) (hk : k < H.length) : keyAt down (swapR H i k) = swp (keyAt down H) i k := by
  funext x
  unfold keyAt swp
  rw [swapR_get hi hk]
  split
  · rfl
  · split
    · rfl
    · rfl
theorem swapR_perm {H : List Rk} {i k : Nat} (hi : i < H.length) (hk : k < H.length) : (swapR H i k).Perm H := by
  rw [swapR_eq hi hk]
  exact List.set_set_perm hi hk
theorem up_of_app {down : Bool} {H : List Rk} {p : Rk} (h : IsHp (keyAt down H) H.length) : UpF (keyAt down (H ++ [p])) (H ++ [p]).length H.length := by
  have hk : ∀ x, x < H.length → keyAt down (H ++ [p]) x = keyAt down H x := fun x hx => by unfold keyAt; rw [List.getElem?_append_left hx]
  rw [List.length_append, List.length_singleton]
  refine ⟨fun i h0 hi hne => ?_, fun h0 i hi0 hi hp => by omega⟩
  rw [hk _ (by omega), hk _ (by omega)]
  exact h i h0 (by omega)
theorem down_of_hpR {down : Bool} {H : List Rk} {n : Nat} (h : IsHp (keyAt down H) H.length) (hn : n + 1 = H.length) : DownF (keyAt down (swapR H 0 n)) n 0 := by
  rw [swapR_key (by omega) (by omega)]
  refine ⟨fun c h0 hc hp => ?_, fun h0 => absurd h0 (by omega)⟩
  unfold swp
  rw [if_neg hp, if_neg (by omega), if_neg (by omega), if_neg (by omega)]
  exact h c h0 (by omega)
theorem keyAt_take {down : Bool} {H : List Rk} {n x : Nat} (h : x < n) : keyAt down (H.take n) x = keyAt down H x := by
  unfold keyAt; rw [List.getElem?_take, if_pos h]
end Go.Proofs.YtefepfiijoafbaaGreat
