/- uids.those, And, Or. Conditions: fewer than 2^40 lists; at most 2^44 uids in all. -/
import Derived.Test.YtldboadcglofaaaThose
namespace Go.Proofs.Ytldboadcglofaaa
open Go.RowKit Go.Shelf
attribute [local go_sem] Oper.semAt_some
set_option linter.unusedVariables false
set_option linter.unusedSimpArgs false

theorem thoseOf_eq (Ls : List (List Int)) (want : Nat → Bool) : thoseOf Ls want = (allOf Ls).filter fun x => want (cnt0 Ls x) := by
  unfold thoseOf pairsOf
  rw [List.filter_map, List.map_map]
  simp [Function.comp_def]
theorem allOf_length (Ls : List (List Int)) : (allOf Ls).length ≤ Ls.flatten.length := norm_length _
theorem allOf_bounds {Ls : List (List Int)} (h : ∀ L ∈ Ls, ∀ x ∈ L, 0 < x ∧ x < 18446744073709551616) : ∀ x ∈ allOf Ls, 0 < x ∧ x < 18446744073709551616 := fun x hx => by
  obtain ⟨L, hL, hxL⟩ := List.mem_flatten.1 ((norm_mem _ x).1 hx).1
  exact h L hL x hxL

theorem WantSaid.later {fw : Value} {want : Nat → Bool} {Rw : Nat → Prop} {w w' : World} (h : WantSaid fw want Rw w) (hs : SameOn Rw w w') : WantSaid fw want Rw w' := by
  obtain ⟨gw, lbw, h1, h2, h3⟩ := h
  exact ⟨gw, lbw, h1, h2, fun W hW => h3 W (hs.trans hW)⟩
theorem PtrsAt.below {w w' : World} {b n : Nat} {v : Value} {ps : List (Option Addr)} (h : PtrsAt w b v ps) (hb : Below n w w') (hlb : 0 < ps.length → b < n) : PtrsAt w' b v ps := by
  obtain ⟨a, off, cap, h1, h2, h3, h4, h5⟩ := h
  exact ⟨a, off, cap, h1, h2, h3, h4, fun i hi => (hb.cell (p := ⟨b, off + i, none⟩) (hlb (by omega))).trans (h5 i hi)⟩

/-- Lists that pointers in a slice lead to. -/
structure ListsAt (w : World) (n lb : Nat) (vl : Value) (ps : List (Option Addr)) (Ls : List (List Int)) : Prop where
  ptrs : PtrsAt w lb vl ps
  lb : 0 < ps.length → lb < n
  hn : n ≤ w.heap.size
  len : ps.length = Ls.length
  lists : ∀ i (h : i < ps.length) (h' : i < Ls.length), IsL w n ps[i] Ls[i]

theorem ListsAt.below {w w' : World} {n lb : Nat} {vl : Value} {ps : List (Option Addr)} {Ls : List (List Int)} (h : ListsAt w n lb vl ps Ls) (hb : Below n w w') : ListsAt w' n lb vl ps Ls :=
  ⟨h.ptrs.below hb h.lb, h.lb, Nat.le_trans h.hn hb.size, h.len, fun i h1 h2 => (h.lists i h1 h2).below hb (Nat.le_refl _)⟩
theorem ListsAt.bounds {w : World} {n lb : Nat} {vl : Value} {ps : List (Option Addr)} {Ls : List (List Int)} (h : ListsAt w n lb vl ps Ls) : ∀ L ∈ Ls, ∀ x ∈ L, 0 < x ∧ x < 18446744073709551616 := fun L hL x hx => by
  obtain ⟨i, hi, rfl⟩ := List.getElem_of_mem hL
  obtain ⟨_, _, _, _, h4, _⟩ := h.lists i (by have := h.len; omega) hi
  exact h4 x hx
theorem flatten_le {Ls : List (List Int)} {N : Nat} (h : Ls.flatten.length ≤ N) : ∀ L ∈ Ls, L.length ≤ N := fun L hL => by
  exact Nat.le_trans (List.sublist_flatten_of_mem hL).length_le h

set_option maxRecDepth 100000 in
set_option maxHeartbeats 1000000 in
theorem those_any (w : World) (n lb : Nat) (vl fw : Value) (ps : List (Option Addr)) (Ls : List (List Int)) (want : Nat → Bool) (Rw : Nat → Prop) (h : ListsAt w n lb vl ps Ls) (hW : WantSaid fw want Rw w) (hRw : ∀ k, Rw k → k < w.heap.size)
    (hsz : Ls.length < 1099511627776) (hfl : Ls.flatten.length ≤ 17592186044416) :
    Calls Try.prog 51 #[vl, fw] w fun e w' => ∃ B, e = .returned (.pointer (some ⟨B, 0, none⟩)) ∧ IsL w' w'.heap.size (some ⟨B, 0, none⟩) (thoseOf Ls want) ∧ Fr N0 w w' := by
  obtain ⟨gw, lbw, rfl, hw1, hw2⟩ := hW
  obtain ⟨a, off, cap, rfl, _⟩ := h.ptrs
  obtain ⟨W1, hW1⟩ : ∃ W1, w.alloc (.cells #[.slice a ps.length cap] 52) = W1 := ⟨_, rfl⟩
  obtain ⟨W2, hW2⟩ : ∃ W2, W1.alloc (.cells #[.func (.func gw) #[] lbw] 82) = W2 := ⟨_, rfl⟩
  have hz1 : W1.heap.size = w.heap.size + 1 := by rw [← hW1]; simp
  have hz2 : W2.heap.size = w.heap.size + 2 := by rw [← hW2]; simp [hz1]
  have hf2 : Fr N0 w W2 := by rw [← hW2, ← hW1]; exact ((Fr.refl _ _).alloc _).alloc _
  have hB : W2.heap[w.heap.size]? = some (.cells #[.slice a ps.length cap] 52 (0, 0)) := by
    rw [← hW2, Below.heap_alloc _ _ _ (by omega), ← hW1]; exact World.alloc_heap_new _ _
  have hBw : W2.heap[w.heap.size + 1]? = some (.cells #[.func (.func gw) #[] lbw] 82 (0, 0)) := by
    rw [← hW2, ← hz1]; exact World.alloc_heap_new _ _
  have hbel : Below n w W2 := hf2.below (fun _ h => h.elim) h.hn
  have hl2 := h.below hbel
  have hseq := those1_seq W2 n w.heap.size (w.heap.size + 1) lb _ _ ps Ls want Rw hB hBw ⟨gw, lbw, rfl, hw1, fun W hW => hw2 W ((hf2.same (S := Rw) fun _ _ h => h).trans hW)⟩ (fun k hk => by have := hRw k hk; omega) hl2.ptrs hl2.lb hl2.hn hl2.len hl2.lists hsz
    (fun L hL => flatten_le hfl L hL) (fun L hL x hx => (h.bounds L hL x hx).1)
  have hof := of_any W2 W2 64 _ _ _ hseq (fun _ _ => rfl) (SameOn.refl _ _) (fun k hk => by
      have := h.hn
      rcases hk with h1 | h1 | h1 | h1
      · omega
      · omega
      · omega
      · have := hRw k h1; omega) (by rw [thoseOf_eq]; exact Nat.le_trans (List.length_filter_le _ _) (Nat.le_trans (allOf_length Ls) hfl)) (by rw [thoseOf_eq]; exact (allOf_sorted Ls).sublist List.filter_sublist)
      (fun x hx => by rw [thoseOf_eq] at hx; exact allOf_bounds h.bounds x (List.mem_filter.1 hx).1)
  have HOF := Lib.hid hof; have HF := Lib.hid hf2
  clear hof hseq h hl2 hbel hw1 hw2 hB hBw hf2
  subst hW1
  go_enter Try.func51, Try.ntmps51
  go_wp2_with (go_at_call 36; go_loud (refine HOF.out.mono ?_); rintro e w3 ⟨rfl, hl3, hf3⟩)
  go_ret
  rw [hz2] at hl3
  exact ⟨_, rfl, hl3, HF.out.then0 hf3⟩

set_option maxRecDepth 100000 in
set_option maxHeartbeats 1000000 in
theorem or1_any (c : Int) (w : World) : Calls Try.prog 53 #[.int .i64 c] w fun e w' => e = .returned (.bool true) ∧ w = w' := by
  go_enter Try.func53, Try.ntmps53
  go_wp2
  go_ret
  exact ⟨rfl, rfl⟩

set_option maxRecDepth 100000 in
set_option maxHeartbeats 1000000 in
theorem and1_any (c b : Nat) (a : Option Addr) (n cap : Nat) (w : World) (h : w.heap[b]? = some (.cells #[.slice a n cap] 52 (0, 0))) : Calls Try.prog 52 #[.int .i64 (c : Int), .pointer (some ⟨b, 0, none⟩)] w fun e w' => e = .returned (.bool (decide (c = n))) ∧ w = w' := by
  have k1 := cell_of_one h
  clear h
  cases hd : decide (c = n) with
  | true =>
    obtain rfl : c = n := by simpa using hd
    go_enter Try.func52, Try.ntmps52
    go_wp2
    go_ret
    exact ⟨by simp, rfl⟩
  | false =>
    have hne : ((c : Int) == (n : Int)) = false := by simp at hd ⊢; omega
    go_enter Try.func52, Try.ntmps52
    go_wp2
    go_ret
    exact ⟨by simp [hne], rfl⟩

set_option maxRecDepth 100000 in
set_option maxHeartbeats 1000000 in
theorem or_any (w : World) (n lb : Nat) (vl : Value) (ps : List (Option Addr)) (Ls : List (List Int)) (h : ListsAt w n lb vl ps Ls) (hsz : Ls.length < 1099511627776) (hfl : Ls.flatten.length ≤ 17592186044416) :
    Calls Try.prog 28 #[vl] w fun e w' => ∃ B, e = .returned (.pointer (some ⟨B, 0, none⟩)) ∧ IsL w' w'.heap.size (some ⟨B, 0, none⟩) (allOf Ls) ∧ Fr N0 w w' := by
  have ht := those_any w n lb vl (.func (.func 53) #[] #[]) ps Ls (fun _ => true) (fun _ => False) h ⟨53, #[], rfl, fun _ _ => rfl, fun W _ c _ => or1_any c W⟩ (fun k hk => hk.elim) hsz hfl
  rw [thoseOf_eq] at ht
  rw [List.filter_eq_self.2 (fun _ _ => rfl)] at ht
  obtain ⟨a, off, cap, rfl, _⟩ := h.ptrs
  have HT := Lib.hid ht
  clear ht h
  go_enter Try.func28, Try.ntmps28
  go_wp2_with (go_at_call 51; go_loud (refine HT.out.mono ?_); rintro e w3 ⟨B, rfl, hl3, hf3⟩)
  go_ret
  exact ⟨_, rfl, hl3, hf3⟩

set_option maxRecDepth 100000 in
set_option maxHeartbeats 1000000 in
theorem and_any (w : World) (n lb : Nat) (vl : Value) (ps : List (Option Addr)) (Ls : List (List Int)) (h : ListsAt w n lb vl ps Ls) (hsz : Ls.length < 1099511627776) (hfl : Ls.flatten.length ≤ 17592186044416) :
    Calls Try.prog 26 #[vl] w fun e w' => ∃ B, e = .returned (.pointer (some ⟨B, 0, none⟩)) ∧ IsL w' w'.heap.size (some ⟨B, 0, none⟩) ((allOf Ls).filter fun x => decide (cnt0 Ls x = Ls.length)) ∧ Fr N0 w w' := by
  obtain ⟨a, off, cap, hvl, _⟩ := h.ptrs
  have hf1 : Fr N0 w (w.alloc (.cells #[vl] 52)) := (Fr.refl _ _).alloc _
  have hbx : (w.alloc (.cells #[vl] 52)).heap[w.heap.size]? = some (.cells #[vl] 52 (0, 0)) := World.alloc_heap_new _ _
  rw [hvl] at hbx
  have ht := those_any (w.alloc (.cells #[vl] 52)) n lb vl (.func (.func 52) #[] #[.pointer (some ⟨w.heap.size, 0, none⟩)]) ps Ls (fun c => decide (c = ps.length)) (fun k => k = w.heap.size) (h.below (hf1.below (fun _ h => h.elim) h.hn))
    ⟨52, #[.pointer (some ⟨w.heap.size, 0, none⟩)], rfl, fun _ _ => rfl, fun W hW c _ => and1_any c _ a ps.length cap W ((hW.block _ rfl (by simp)).trans (by rw [hvl]; exact hbx))⟩ (fun k hk => by simp; omega) hsz hfl
  rw [thoseOf_eq, h.len] at ht
  subst hvl
  have HT := Lib.hid ht; have HF := Lib.hid hf1
  clear ht h hf1 hbx
  go_enter Try.func26, Try.ntmps26
  go_wp2_with (go_at_call 51; go_loud (refine HT.out.mono ?_); rintro e w3 ⟨B, rfl, hl3, hf3⟩)
  go_ret
  exact ⟨_, rfl, hl3, HF.out.then0 hf3⟩

end Go.Proofs.Ytldboadcglofaaa
