/- What uids.counted keeps: a heap of heads, each with a box that holds the rest of its list. -/
import Derived.Test.YtldboadcglofaaaHeap2
import Derived.Test.YtldboadcglofaaaNext
namespace Go.Proofs.Ytldboadcglofaaa
open Go.RowKit Go.Shelf
set_option linter.unusedVariables false
set_option linter.unusedSimpArgs false

/-- Box b holds a slice that reads as m. -/
def BoxAt (W : World) (b : Nat) (m : List Int) (X : Nat → Prop) : Prop := ∃ va bl, W.heap[b]? = some (.cells #[va] 22 (0, 0)) ∧ Ints .u64 W bl va m ∧ (0 < m.length → X bl)

structure Cn (W : World) (base : Nat) (S : Nat → Prop) (hb : Nat) (v : Value) (H : List (Int × Nat)) (M : Nat → List Int) : Prop where
  heap : HpAt W base hb v H
  hbb : base ≤ hb ∧ ¬ S hb
  rowb : ∀ q, v.ownBlock = some q → ¬ S q
  box : ∀ p ∈ H, base ≤ p.2 ∧ ¬ S p.2 ∧ BoxAt W p.2 (M p.2) (fun bl => base ≤ bl ∧ ¬ S bl ∧ v.ownBlock ≠ some bl)
  rises : ∀ p ∈ H, (p.1 :: M p.2).Pairwise (· < ·)
  wf : ∀ p ∈ H, ∀ x ∈ p.1 :: M p.2, 0 < x ∧ x < 18446744073709551616
  apart : (H.map (·.2)).Nodup

theorem ints_ne_box {W : World} {bl q : Nat} {va : Value} {m : List Int} {a : Option Addr} {n c : Nat} {t : TypeId} (h : Ints .u64 W bl va m) (h0 : 0 < m.length) (hq : W.heap[q]? = some (.cells #[.slice a n c] t (0, 0))) : bl ≠ q := fun e => by
  subst e
  obtain ⟨a', off, cap, _, _, _, _, _, h5, _⟩ := h
  have := h5 0 h0
  simp only [World.cell?, hq] at this
  cases off with
  | zero => simp at this
  | succ k => simp at this
theorem ints_slice' {W : World} {bl : Nat} {va : Value} {m : List Int} (h : Ints .u64 W bl va m) : ∃ a c, va = .slice a m.length c := by
  obtain ⟨a, off, cap, h1, _⟩ := h; exact ⟨a, cap, h1⟩

theorem BoxAt.fr {W W' : World} {b : Nat} {m : List Int} {X Y : Nat → Prop} {T : Nat → Prop} (h : BoxAt W b m X) (hf : Fr T W W') (hb : ¬ T b) (hx : ∀ bl va, Ints .u64 W bl va m → 0 < m.length → X bl → ¬ T bl ∧ Y bl) : BoxAt W' b m Y := by
  obtain ⟨va, bl, h1, h2, h3⟩ := h
  by_cases h0 : 0 < m.length
  · obtain ⟨h4, h5⟩ := hx bl va h2 h0 (h3 h0)
    exact ⟨va, bl, (hf.at hb (lt_of_block h1)).trans h1, h2.fr hf h4, fun _ => h5⟩
  · exact ⟨va, bl, (hf.at hb (lt_of_block h1)).trans h1, h2.same fun h => absurd h h0, fun h => absurd h h0⟩

section
variable {W W' : World} {base hb : Nat} {S S' : Nat → Prop} {v v' : Value} {H H' : List (Int × Nat)} {M M' : Nat → List Int}

/-- Behind a step of the consumer. -/
theorem Cn.fr (h : Cn W base S hb v H M) (hf : Fr S W W') (hg : ∀ k, S' k → S k ∨ W.heap.size ≤ k) : Cn W' base S' hb v H M where
  heap := ⟨h.heap.row.fr hf h.rowb, (hf.at h.hbb.2 (lt_of_block h.heap.box)).trans h.heap.box, h.heap.ord⟩
  hbb := ⟨h.hbb.1, fun hs => by
    rcases hg _ hs with h1 | h1
    · exact h.hbb.2 h1
    · have := lt_of_block h.heap.box; omega⟩
  rowb := fun q hq hs => by
    rcases hg _ hs with h1 | h1
    · exact h.rowb q hq h1
    · have := (h.heap.row.lt q hq).2; omega
  box := fun p hp => by
    obtain ⟨h1, h2, h3⟩ := h.box p hp
    refine ⟨h1, fun hs => ?_, h3.fr hf h2 fun bl va hi h0 ⟨h4, h5, h6⟩ => ⟨h5, h4, fun hs => ?_, h6⟩⟩
    · obtain ⟨va, bl, h4, _⟩ := h3
      rcases hg _ hs with h5 | h5
      · exact h2 h5
      · have := lt_of_block h4; omega
    · rcases hg _ hs with h7 | h7
      · exact h5 h7
      · have := hi.lt h0; omega
  rises := h.rises
  wf := h.wf
  apart := h.apart

/-- Behind a step of its own: b: the box that is turned. -/
theorem Cn.step (h : Cn W base S hb v H M) (b : Nat) (hh : HpAt W' base hb v' H') (hv : ∀ q, v'.ownBlock = some q → v.ownBlock = some q ∨ W.heap.size ≤ q)
    (hf : Fr (fun q => q = hb ∨ v.ownBlock = some q ∨ q = b) W W') (hH : ∀ p ∈ H', p.2 ≠ b → p ∈ H) (hM : ∀ q, q ≠ b → M' q = M q) {vb : Value} (hvb : ∃ a n c, vb = .slice a n c) (hbx : W.heap[b]? = some (.cells #[vb] 22 (0, 0)))
    (hb' : ∀ p ∈ H', p.2 = b → base ≤ b ∧ ¬ S b ∧ BoxAt W' b (M' b) (fun bl => base ≤ bl ∧ ¬ S bl ∧ v'.ownBlock ≠ some bl) ∧ (p.1 :: M' b).Pairwise (· < ·) ∧ ∀ x ∈ p.1 :: M' b, 0 < x ∧ x < 18446744073709551616)
    (hn : (H'.map (·.2)).Nodup) (hS : ∀ k, S k → k < W.heap.size) : Cn W' base S hb v' H' M' where
  heap := hh
  hbb := h.hbb
  rowb := fun q hq hs => by
    rcases hv q hq with h1 | h1
    · exact h.rowb q h1 hs
    · have := hS q hs; omega
  box := fun p hp => by
    by_cases e : p.2 = b
    · obtain ⟨h1, h2, h3, _⟩ := hb' p hp e
      rw [e]; exact ⟨h1, h2, h3⟩
    · obtain ⟨h1, h2, h3⟩ := h.box p (hH p hp e)
      rw [hM _ e]
      have hne1 : p.2 ≠ hb := fun e' => by
        obtain ⟨va, bl, h4, _⟩ := h3; rw [e', h.heap.box] at h4; simp at h4
      have hne2 : v.ownBlock ≠ some p.2 := fun e' => by
        obtain ⟨va, bl, h4, _⟩ := h3; obtain ⟨c, hc⟩ := ownsRow_elem h.heap.row e'; rw [hc] at h4; simp at h4
      refine ⟨h1, h2, h3.fr hf (by rintro (h4 | h4 | h4) <;> contradiction) fun bl va hi h0 ⟨h5, h6, h7⟩ => ⟨?_, h5, h6, fun e' => ?_⟩⟩
      · obtain ⟨a, cap, hvf⟩ := HpAt.vform (hb := hb) h.heap.row
        obtain ⟨a2, n2, c2, rfl⟩ := hvb
        rintro (h8 | h8 | h8)
        · have hbq := h.heap.box; rw [hvf] at hbq
          exact ints_ne_box hi h0 hbq h8
        · exact h7 h8
        · exact ints_ne_box hi h0 hbx h8
      · rcases hv bl e' with h8 | h8
        · exact h7 h8
        · have := hi.lt h0; omega
  rises := fun p hp => by
    by_cases e : p.2 = b
    · have := (hb' p hp e).2.2.2.1; rw [e]; exact this
    · rw [hM _ e]; exact h.rises p (hH p hp e)
  wf := fun p hp => by
    by_cases e : p.2 = b
    · have := (hb' p hp e).2.2.2.2; rw [e]; exact this
    · rw [hM _ e]; exact h.wf p (hH p hp e)
  apart := hn
end

/-! ### How many lists have a number -/
def cnt (H : List (Int × Nat)) (M : Nat → List Int) (x : Int) : Nat := H.countP fun p => decide (x = p.1 ∨ x ∈ M p.2)
theorem cnt_perm {H H' : List (Int × Nat)} (h : H.Perm H') (M : Nat → List Int) (x : Int) : cnt H M x = cnt H' M x := h.countP_eq _
theorem cnt_cons (p : Int × Nat) (H : List (Int × Nat)) (M : Nat → List Int) (x : Int) : cnt (p :: H) M x = cnt H M x + if x = p.1 ∨ x ∈ M p.2 then 1 else 0 := by
  unfold cnt; rw [List.countP_cons]; simp
theorem cnt_congr {H : List (Int × Nat)} {M M' : Nat → List Int} (h : ∀ p ∈ H, M' p.2 = M p.2) (x : Int) : cnt H M' x = cnt H M x := by
  unfold cnt
  apply List.countP_congr
  intro p hp
  rw [h p hp]
/-- The sum of all that is still to come. -/
def tot (H : List (Int × Nat)) (M : Nat → List Int) : Nat := (H.map fun p => 1 + (M p.2).length).sum
theorem tot_perm {H H' : List (Int × Nat)} (h : H.Perm H') (M : Nat → List Int) : tot H M = tot H' M := (h.map _).sum_nat
theorem tot_cons (p : Int × Nat) (H : List (Int × Nat)) (M : Nat → List Int) : tot (p :: H) M = 1 + (M p.2).length + tot H M := by simp [tot]
theorem tot_congr {H : List (Int × Nat)} {M M' : Nat → List Int} (h : ∀ p ∈ H, M' p.2 = M p.2) : tot H M' = tot H M := by
  unfold tot
  congr 1
  apply List.map_congr_left
  intro p hp
  rw [h p hp]

/-! ### That sum, read from the memory -/
def entAt (W : World) (a : Addr) : Nat := match W.cell? a with
  | some (Value.func _ _ cs) => match (cs[0]? : Option Value) with
    | some (.pointer (some c)) => match W.cell? c with
      | some (.slice _ m _) => 1 + m
      | _ => 0
    | _ => 0
  | _ => 0
def mmAt (W : World) (hb : Nat) : Nat := match W.cell? ⟨hb, 0, none⟩ with
  | some (.slice (some a) n _) => ((List.range n).map fun i => entAt W ⟨a.block, i * 2 + 1, none⟩).sum
  | _ => 0
theorem mm_eq {W : World} {base hb : Nat} {S : Nat → Prop} {v : Value} {H : List (Int × Nat)} {M : Nat → List Int} (h : Cn W base S hb v H M) : mmAt W hb = tot H M := by
  have hc := cell_of_one h.heap.box
  by_cases h0 : 0 < H.length
  · obtain ⟨g, cap, rfl⟩ := h.heap.row.form h0
    unfold mmAt
    rw [hc]
    simp only
    unfold tot
    congr 1
    apply List.ext_getElem?
    intro i
    by_cases hi : i < H.length
    · rw [List.getElem?_map, List.getElem?_map, List.getElem?_range hi, List.getElem?_eq_getElem hi]
      simp only [Option.map_some, Option.some.injEq]
      obtain ⟨_, hd⟩ := h.heap.row.cells rfl i hi
      obtain ⟨_, _, va, bl, hb1, hi1, _⟩ := h.box H[i] (List.getElem_mem hi)
      obtain ⟨a, c, rfl⟩ := ints_slice' hi1
      unfold entAt
      rw [hd]
      simp only [nextFn]
      have := cell_of_one hb1
      simp [this]
    · rw [List.getElem?_eq_none (by simp; omega), List.getElem?_eq_none (by simp; omega)]
  · obtain rfl : H = [] := List.eq_nil_of_length_eq_zero (by omega)
    obtain ⟨a, cap, rfl⟩ := HpAt.vform (hb := hb) h.heap.row
    unfold mmAt
    rw [hc]
    cases a with
    | none => rfl
    | some a => rfl

end Go.Proofs.Ytldboadcglofaaa
