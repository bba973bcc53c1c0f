/- maps.Keys at post.have; slices.Sorted of it: the keys, rising. (Printed by mkiterh.py.) -/
import Derived.Test.YtefepfiijoafbaaGreatQKeys4
namespace Go.Proofs.YtefepfiijoafbaaGreat
open Go.RowKit Go.Maps Go.Sort Go.Shelf
attribute [local go_sem] Oper.semAt_some
set_option linter.unusedVariables false
set_option linter.unusedSimpArgs false

set_option maxRecDepth 100000 in
set_option maxHeartbeats 1000000 in
theorem VH.keys1N_in {H : Type} (F : Fence) (n : Nat) (h10 : F.fn 152) (hro : F.round = none) (hn : 1 ≤ n) (l Bm b nn : Nat) (D0 : DataW H) {R : Value → Option (DataW H × List MemPlace)} (J : List Int → World → Prop)
    (hY : ∀ pre x W, J pre W → pre.length < Maps.size D0 → YieldAt F (n - 1) Tryz.prog l #[encU6 x] W fun e W' => e = .returned (.bool true) ∧ J (pre ++ [x]) W' ∧ KeepsWalks W W')
    (W : World) (hJ : AbidesFrom W.heap.size J) (hm : W.cell? ⟨Bm, 0, none⟩ = some (.map (some b))) (hown : W.ownsMap Tryz.prog 33 R b nn D0) (h0 : J [] W) :
    CallsIn F n Tryz.prog 152 #[.func (.yield l) #[] #[], .pointer (some ⟨Bm, 0, none⟩)] W fun e W' => (∃ v, e = .returned v) ∧ ∃ ss : List Int, ss.Perm (u6Keys D0) ∧ J ss W' := by
  refine callsIn_of_wp Tryz.func152 rfl h10 ?_ hro
  simp only [Tryz.ntmps152, List.size_toArray, List.length_cons, List.length_nil, Nat.reduceAdd, Nat.reduceSub, Array.replicate_succ, Array.replicate_zero, List.push_toArray, List.append_toArray, List.nil_append, List.cons_append]
  gi_wp2_with (first
    | (gi_at_range; refine wpListIn_range_own _ rfl _ 183 rfl 33 91 (int_keyed Tryz.underlying33) Tryz.underlying183 _ b nn _ rfl hown ?_; intro w0 hrg0 hg0 hs0)
    | gi_in)
  go_frame
  gi_loopw [3] (fun _ wr => ∃ (left : Lit → Bool) (cnt : Nat) (ss : List Int), wr.ranges Tryz.prog 33 R b W.heap.size nn D0 left cnt ∧ ss.length + cnt ≤ Maps.size D0 ∧ CollectedU6 D0 left ss ∧ J ss wr)
    (fun _ wr => wr.rangeLeft b W.heap.size)
  case atStart =>
    exact ⟨_, _, [], hrg0, by simp, CollectedU6.start D0, hJ [] W w0 none h0 hg0 (fun r e => by cases e)⟩
  case round =>
    obtain ⟨left, cnt, ss, hrg, hcs, hC, hJs⟩ := hrel
    gi_wp2_with (first
      | (gi_at_next; refine wpListIn_next_ranges _ rfl _ rfl 33 (int_keyed Tryz.underlying33) R encU6 id (fun key kl hk => by obtain ⟨x, hx, _⟩ := keyOf_u64 Tryz.underlying33 hk; exact ⟨x, hx⟩) (fun v _ _ => ⟨v, rfl⟩) b W.heap.size nn _ _ _ rfl hrg ?_ ?_)
      | gi_in)
    · 
      intro hc0 hl0
      gi_wp2
      go_end0
      exact ⟨⟨_, rfl⟩, ss, hC.perm hown (int_keyed Tryz.underlying33) Tryz.underlying33 hl0, hJs⟩
    · 
      intro x c kl yd yp w2 cnt2 hkey hlk hv hat hrg2 hlt hg2 hs2 hen
      obtain ⟨x', ex, rfl, _⟩ := keyOf_u64 Tryz.underlying33 hkey
      obtain rfl : x = x' := encU6_inj ex
      have hJ2 : J ss w2 := hJ ss wr w2 (some W.heap.size) hJs hg2 (fun r e => by cases e; exact ⟨Nat.le_refl _, hrg.iter_walk⟩)
      obtain ⟨fn, tmps, assign, body, hy, hR⟩ := hY ss x w2 hJ2 (by omega)
      clear hs2
      gi_wp2
      refine hR.mono ?_
      rintro e W3 ⟨rfl, hJ3, hk3⟩
      gi_wp2
      have hrg3 := hrg2.of_walks hk3
      go_roundw
      case rel => exact ⟨_, cnt2, ss ++ [x], hrg3, by simp; omega, hC.step hlk hat, hJ3⟩
      case measure => rw [hrg3.left_eq, hrg.left_eq]; exact hlt
theorem VH.keys_gives {H : Type} (F : Fence) (n : Nat) (h10 : F.fn 152) (hro : F.round = none) (hn : 1 ≤ n) (Bm b nn : Nat) (D0 : DataW H) {R : Value → Option (DataW H × List MemPlace)} (w : World) (hBm : Bm < w.heap.size)
    (hm : w.cell? ⟨Bm, 0, none⟩ = some (.map (some b))) (hown : w.ownsMap Tryz.prog 33 R b nn D0) :
    SeqGives F n Tryz.prog 152 #[.pointer (some ⟨Bm, 0, none⟩)] encU6 (fun ss => ss.Perm (u6Keys D0)) (Maps.size D0) w := fun l J W hW hJ hY h0 => by
  have hown' : W.ownsMap Tryz.prog 33 R b nn D0 := by
    have hbl := hown.lt
    obtain ⟨es, clock, hb, Ft, hs, hD⟩ := hown
    exact ⟨es, clock, (hW.block b hbl).trans hb, Ft, hs, hD⟩
  exact VH.keys1N_in F n h10 hro hn l Bm b nn D0 J hY W hJ ((hW.cell (p := ⟨Bm, 0, none⟩) hBm).trans hm) hown' h0
set_option maxHeartbeats 1000000 in
theorem VH.keys_in (F : Fence) (n : Nat) (h7 : F.fn 99) (hro : F.round = none) (mb : Option Nat) (w : World) :
    CallsIn F n Tryz.prog 99 #[.map mb] w fun e w' => e = .returned (.func (.func 152) #[] #[.pointer (some ⟨w.heap.size, 0, none⟩)]) ∧ w' = w.alloc (.cells #[.map mb] 183) := by
  refine callsIn_of_wp Tryz.func99 rfl h7 ?_ hro
  simp only [Tryz.ntmps99, List.size_toArray, List.length_cons, List.length_nil, Nat.reduceAdd, Nat.reduceSub, Array.replicate_succ, Array.replicate_zero, List.push_toArray, List.append_toArray, List.nil_append, List.cons_append]
  gi_wp2
  go_ret
  exact ⟨rfl, rfl⟩
theorem sortedH_any (W : World) (Bm b N : Nat) (F : Lit → Option Value) (h : MapF Tryz.prog 33 W b N F) (hB : W.heap[Bm]? = some (.cells #[.map (some b)] 183 (0, 0))) (hN : N ≤ 1000000) :
    Calls Tryz.prog 61 #[.func (.func 152) #[] #[.pointer (some ⟨Bm, 0, none⟩)]] W (Keys4 F W) := by
  obtain ⟨D, hD, hV⟩ := h
  have hsz : Maps.size D ≤ N := hD.size_le
  have hseq := VH.keys_gives (R := heldR) Fence.wide 2 trivial rfl (by omega) Bm b N D W (lt_of_block hB) (cell_of_one hB) hD
  have hc := (callsIn_wide (n := 5)).1 (V64.sorted_in Fence.wide 5 trivial trivial trivial trivial rfl (by omega) (sorts64 _) (enters_of Tryz.func84 (by kernel_rfl) rfl) 152 #[.pointer (some ⟨Bm, 0, none⟩)] trivial (enters_of Tryz.func152 (by kernel_rfl) rfl) _ _ (by unfold maxLen; omega) (by omega) W hseq)
  refine hc.mono fun e w' ⟨v, ss, he, hp, hrow, hnil, hb⟩ => ?_
  obtain ⟨hnd, hmem⟩ := u6Keys_mem hD lawU Tryz.underlying33
  have hms := List.mergeSort_perm ss fun x y => decide (x ≤ y)
  refine ⟨v, _, he, rises_mergeSort (hp.nodup_iff.2 hnd), fun x => ?_, fun x hx => ?_, ?_, fr0_of_below hb⟩
  · rw [hms.mem_iff, hp.mem_iff, hmem x, hV.has]
  · exact u6Keys_wf hD Tryz.underlying33 x (hp.mem_iff.1 (hms.mem_iff.1 hx))
  · rw [hms.length_eq]; exact hrow
theorem keysH_any (W : World) (b : Nat) : Calls Tryz.prog 99 #[.map (some b)] W fun e w' => e = .returned (.func (.func 152) #[] #[.pointer (some ⟨W.heap.size, 0, none⟩)]) ∧ w' = W.alloc (.cells #[.map (some b)] 183) :=
  (callsIn_wide (n := 5)).1 (VH.keys_in Fence.wide 5 trivial rfl (some b) W)
end Go.Proofs.YtefepfiijoafbaaGreat
