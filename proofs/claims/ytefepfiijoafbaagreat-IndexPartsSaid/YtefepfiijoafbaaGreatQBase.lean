/- Plain laws that the walks of this seat share, over any program: frames between worlds, slices that are read, a range over a function. No condition. -/
import Derived.RangeFuncNested
import Derived.RangeFuncBound
import Derived.RangeFuncCalls
import Derived.RangeFuncLeaves
import Derived.Shelf.Abstract
import Derived.Shelf.RegionOpen
import Derived.WalkKit
import Derived.ProofKit
import Derived.OpenShut
import Derived.OwnWalkIn
import Derived.TacticsInMore
import Derived.LoopNIn
import Derived.LoopIn
import Derived.Lib.Hide
import Derived.Below
import Derived.Deep.AppendLies
import Derived.WalkSpells
import Derived.WalkLawsBesides
namespace Go.Proofs.YtefepfiijoafbaaGreat
open Go.RowKit

/-! ### Frames -/

/-- The blocks of S lie in B as they lay in A; no block has gone; the streams are as they were. -/
structure SameOn (S : Nat → Prop) (A B : World) : Prop where
  os : B.os = A.os
  tape : B.tape = A.tape
  output : B.output = A.output
  size : A.heap.size ≤ B.heap.size
  block : ∀ k, S k → k < A.heap.size → B.heap[k]? = A.heap[k]?

theorem SameOn.refl (S : Nat → Prop) (A : World) : SameOn S A A := ⟨rfl, rfl, rfl, Nat.le_refl _, fun _ _ _ => rfl⟩
theorem SameOn.mono {S S' : Nat → Prop} {A B : World} (h : SameOn S A B) (hs : ∀ k, S' k → k < A.heap.size → S k) : SameOn S' A B :=
  ⟨h.os, h.tape, h.output, h.size, fun k hk hl => h.block k (hs k hk hl) hl⟩
theorem SameOn.trans {S : Nat → Prop} {A B C : World} (h : SameOn S A B) (k : SameOn S B C) : SameOn S A C :=
  ⟨k.os.trans h.os, k.tape.trans h.tape, k.output.trans h.output, Nat.le_trans h.size k.size, fun i hi hl => (k.block i hi (Nat.lt_of_lt_of_le hl h.size)).trans (h.block i hi hl)⟩

/-- All blocks but those of T lie as they lay. -/
def Fr (T : Nat → Prop) (A B : World) : Prop := SameOn (fun k => ¬ T k) A B
/-- No block at all. -/
def N0 : Nat → Prop := fun _ => False

section
variable {S T T' : Nat → Prop} {A B C : World}
theorem Fr.refl (T : Nat → Prop) (A : World) : Fr T A A := SameOn.refl _ _
theorem Fr.size (h : Fr T A B) : A.heap.size ≤ B.heap.size := SameOn.size h
theorem Fr.trans (h : Fr T A B) (k : Fr T' B C) (ht : ∀ k, T' k → T k ∨ A.heap.size ≤ k) : Fr T A C :=
  ⟨k.os.trans h.os, k.tape.trans h.tape, k.output.trans h.output, Nat.le_trans h.size k.size, fun i hi hl =>
    (k.block i (fun ht' => (ht i ht').elim hi (fun hx => absurd hl (by omega))) (Nat.lt_of_lt_of_le hl h.size)).trans (h.block i hi hl)⟩
theorem Fr.mono (h : Fr T A B) (ht : ∀ k, T k → T' k ∨ A.heap.size ≤ k) : Fr T' A B := (Fr.refl T' A).trans h ht
theorem Fr.then0 (h : Fr T A B) (k : Fr N0 B C) : Fr T A C := h.trans k (fun _ h => h.elim)
theorem Fr.same (h : Fr T A B) (hs : ∀ k, S k → ¬ T k) : SameOn S A B := SameOn.mono h fun k hk _ => hs k hk
theorem Fr.at (h : Fr T A B) {k : Nat} (hk : ¬ T k) (hl : k < A.heap.size) : B.heap[k]? = A.heap[k]? := h.block k hk hl
theorem Fr.below (h : Fr T A B) {n : Nat} (ht : ∀ k, T k → n ≤ k) (hn : n ≤ A.heap.size) : Below n A B :=
  ⟨h.os, h.tape, h.output, h.size, fun k hk => h.block k (fun hx => absurd (ht k hx) (by omega)) (by omega)⟩
theorem Fr.below0 (h : Fr N0 A B) : Below A.heap.size A B := h.below (fun _ h => h.elim) (Nat.le_refl _)
theorem fr_of_below {n : Nat} (h : Below n A B) (ht : ∀ k, ¬ T k → k < A.heap.size → k < n) : Fr T A B :=
  ⟨h.os, h.tape, h.output, h.size, fun k hk hl => h.block k (ht k hk hl)⟩
theorem fr0_of_below (h : Below A.heap.size A B) : Fr N0 A B := fr_of_below h fun _ _ h => h
theorem SameOn.below {n : Nat} (h : SameOn S A B) (hs : ∀ k, k < n → S k) (hn : n ≤ A.heap.size) : Below n A B :=
  ⟨h.os, h.tape, h.output, h.size, fun k hk => h.block k (hs k hk) (by omega)⟩
theorem Fr.alloc (h : Fr T A B) (o : Obj) : Fr T A (B.alloc o) :=
  h.trans (T' := N0) ⟨rfl, rfl, rfl, by simp, fun k _ hl => Below.heap_alloc _ _ _ hl⟩ (fun _ h => h.elim)
theorem Fr.drew (h : Fr T A B) : Fr T A B.drew := ⟨h.os, h.tape, h.output, h.size, h.block⟩
theorem Fr.drewN (h : Fr T A B) (n : Nat) : Fr T A (B.drewN n) := ⟨h.os, h.tape, h.output, h.size, h.block⟩
theorem Fr.setCell (h : Fr T A B) {p : Addr} (hp : T p.block ∨ A.heap.size ≤ p.block) (u : Value) : Fr T A (B.setCell p u) :=
  h.trans (T' := fun k => k = p.block) ⟨rfl, rfl, rfl, by simp [World.setCell], fun k hk _ => Below.heap_setCell _ _ _ _ hk⟩ (fun k hk => by rw [hk]; exact hp)
theorem Fr.putObj (h : Fr T A B) {l : Nat} (hp : T l ∨ A.heap.size ≤ l) (o : Obj) : Fr T A (B.putObj l o) :=
  h.trans (T' := fun k => k = l) ⟨rfl, rfl, rfl, by simp, fun k hk _ => World.putObj_heap_other hk⟩ (fun k hk => by rw [hk]; exact hp)
theorem Fr.grown {row : Option Nat} (h : Fr T A B) (hg : B.grownBy C row) (hp : ∀ k, row = some k → T k ∨ A.heap.size ≤ k) : Fr T A C :=
  h.trans (T' := fun k => row = some k) ⟨hg.os, hg.tape, hg.output, hg.size, fun k hk hl => hg.block k hl (fun e => hk e.symm)⟩ hp
theorem SameOn.alloc (h : SameOn S A B) (o : Obj) : SameOn S A (B.alloc o) := h.trans ⟨rfl, rfl, rfl, by simp, fun k _ hl => Below.heap_alloc _ _ _ hl⟩
theorem SameOn.drew (h : SameOn S A B) : SameOn S A B.drew := ⟨h.os, h.tape, h.output, h.size, h.block⟩
theorem SameOn.setCell (h : SameOn S A B) {p : Addr} (hp : ¬ S p.block) (u : Value) : SameOn S A (B.setCell p u) :=
  h.trans ⟨rfl, rfl, rfl, by simp [World.setCell], fun k hk _ => Below.heap_setCell _ _ _ _ (fun e => hp (by rw [← e]; exact hk))⟩
theorem SameOn.putObj (h : SameOn S A B) {l : Nat} (hp : ¬ S l) (o : Obj) : SameOn S A (B.putObj l o) :=
  h.trans ⟨rfl, rfl, rfl, by simp, fun k hk _ => World.putObj_heap_other (fun e => hp (by rw [← e]; exact hk))⟩
theorem SameOn.fr (h : SameOn S A B) (k : Fr T B C) (ht : ∀ k, S k → ¬ T k) : SameOn S A C := h.trans (k.same ht)
end

theorem cell_same {A B : World} {p : Addr} (h : B.heap[p.block]? = A.heap[p.block]?) : B.cell? p = A.cell? p := World.cell?_of_block (w := A) h
theorem frozen_same {A B : World} {p : Addr} (h : B.heap[p.block]? = A.heap[p.block]?) : B.frozen? p = A.frozen? p := World.frozen?_of_block (w := A) h
theorem lt_of_cell {A : World} {p : Addr} {v : Value} (h : A.cell? p = some v) : p.block < A.heap.size := World.block_lt_of_cell? A p h
theorem Fr.cell {T : Nat → Prop} {A B : World} (h : Fr T A B) {p : Addr} {v : Value} (hp : ¬ T p.block) (hc : A.cell? p = some v) : B.cell? p = some v :=
  (cell_same (h.at hp (lt_of_cell hc))).trans hc

theorem ret_bool {a b : Bool} (h : a = b) : Ending.returned (.bool a) = .returned (.bool b) := by rw [h]
theorem ret_int {k : IntKind} {a b : Int} (h : a = b) : Ending.returned (.int k a) = .returned (.int k b) := by rw [h]

/-! ### Slices of numbers that are read -/

/-- The slice value v reads as the numbers xs of kind k, which lie in block b. -/
def Ints (k : IntKind) (w : World) (b : Nat) (v : Value) (xs : List Int) : Prop :=
  ∃ a off cap, v = .slice a xs.length cap ∧ xs.length ≤ cap ∧ cap ≤ 9223372036854775807 ∧ (0 < xs.length → a = some ⟨b, off, none⟩) ∧
    (a = none → cap = 0) ∧
    (∀ i (h : i < xs.length), w.cell? ⟨b, off + i, none⟩ = some (.int k xs[i])) ∧ ∀ x ∈ xs, (Lit.int k x).wf = true

section
variable {k : IntKind} {w w' : World} {b : Nat} {v : Value} {xs : List Int}
theorem Ints.same (h : Ints k w b v xs) (hs : 0 < xs.length → w'.heap[b]? = w.heap[b]?) : Ints k w' b v xs := by
  obtain ⟨a, off, cap, h1, h2, h3, h4, h5, h7, h8⟩ := h
  exact ⟨a, off, cap, h1, h2, h3, h4, h5, fun i hi => (cell_same (A := w) (p := ⟨b, off + i, none⟩) (hs (by omega))).trans (h7 i hi), h8⟩
theorem Ints.lt (h : Ints k w b v xs) (h0 : 0 < xs.length) : b < w.heap.size := by
  obtain ⟨a, off, cap, h1, h2, h3, h4, h5, h7, h8⟩ := h
  exact lt_of_cell (p := ⟨b, off + 0, none⟩) (h7 0 h0)
theorem Ints.fr {T : Nat → Prop} (h : Ints k w b v xs) (hf : Fr T w w') (hb : ¬ T b) : Ints k w' b v xs :=
  h.same fun h0 => hf.at hb (h.lt h0)
theorem Ints.fr0 (h : Ints k w b v xs) (hf : Fr N0 w w') : Ints k w' b v xs := h.fr hf (fun h => h)
theorem Ints.on {S : Nat → Prop} (h : Ints k w b v xs) (hf : SameOn S w w') (hb : 0 < xs.length → S b) : Ints k w' b v xs :=
  h.same fun h0 => hf.block b (hb h0) (h.lt h0)
theorem Ints.wf (h : Ints k w b v xs) : ∀ x ∈ xs, (Lit.int k x).wf = true := by
  obtain ⟨a, off, cap, h1, h2, h3, h4, h5, h7, h8⟩ := h; exact h8
theorem Ints.nil (k : IntKind) (w : World) (b : Nat) : Ints k w b (.slice none 0 0) [] :=
  ⟨none, 0, 0, rfl, by simp, by omega, by simp, by simp, by simp, by simp⟩
end

/-- A slice that came in, as a row's proof hands it over. -/
theorem ints_of_row {k : IntKind} {w : World} {a : Option Addr} {len cap : Nat} {zs : List Int}
    (h : (a = none ∧ len = 0 ∧ cap = 0 ∧ zs = []) ∨
      ∃ x, a = some x ∧ len ≤ cap ∧ cap ≤ maxLen ∧ zs.length = cap ∧ (∀ i, i < zs.length → w.cell? (x.add i) = some (.int k (zs.getD i 0))) ∧ ∀ n ∈ zs, (Lit.int k n).wf = true) :
    ∃ b, Ints k w b (.slice a len cap) (zs.take len) ∧ (zs.take len).length = len := by
  rcases h with ⟨rfl, rfl, rfl, rfl⟩ | ⟨x, rfl, hl, hm, hz, hc, hw⟩
  · exact ⟨0, Ints.nil _ _ _, rfl⟩
  · have hlen : (zs.take len).length = len := by simp; omega
    have hm' : cap ≤ 9223372036854775807 := by unfold maxLen at hm; omega
    by_cases h0 : 0 < zs.length
    · obtain ⟨b, off, rfl, hc'⟩ := Go.ints_at hc h0
      refine ⟨b, ⟨some ⟨b, off, none⟩, off, cap, by rw [hlen], by omega, hm', fun _ => rfl, by simp, fun i hi => ?_, fun n hn => hw n (List.mem_of_mem_take hn)⟩, hlen⟩
      have hi' : i < zs.length := by simp at hi; omega
      rw [hc' i hi', List.getElem_take, List.getD_eq_getElem?_getD, List.getElem?_eq_getElem hi', Option.getD_some]
    · refine ⟨0, ⟨some x, 0, cap, by rw [hlen], by omega, hm', fun h => absurd h (by omega), by simp, fun i hi => absurd hi (by simp; omega), fun n hn => hw n (List.mem_of_mem_take hn)⟩, hlen⟩

/-! ### A range over a function -/

/-- What a body's invariant J must bear: the blocks of its own set S alone decide it. -/
def Stable {α : Type} (J : (Nat → Prop) → List α → World → Prop) : Prop := ∀ S pre A B, J S pre A → SameOn S A B → J S pre B

/-- How a body's own set of blocks may grow between the worlds A and B. -/
def Grows (S S' : Nat → Prop) (A B : World) : Prop := ∀ k, S' k → (S k ∨ A.heap.size ≤ k) ∧ k < B.heap.size

theorem Grows.trans {S S' S'' : Nat → Prop} {A B C : World} (h : Grows S S' A B) (k : Grows S' S'' B C) (hs : A.heap.size ≤ B.heap.size) : Grows S S'' A C :=
  fun i hi => ⟨by rcases (k i hi).1 with h1 | h1; · exact (h i h1).1
                  · exact .inr (by omega), (k i hi).2⟩
theorem Grows.refl {S : Nat → Prop} {A B : World} (h : ∀ k, S k → k < B.heap.size) : Grows S S A B := fun k hk => ⟨.inl hk, h k hk⟩

/-- The function value .func (.func g) #[] lb, made in w, hands the elements xs to yield, one after the other, and reads the blocks R alone. -/
def SeqOf {α : Type} (P : Program) (g : FuncId) (lb : Array Value) (encs : α → Array Value) (R : Nat → Prop) (xs : List α) (w : World) : Prop :=
  ∀ (l : Nat) (J Jx : (Nat → Prop) → List α → World → Prop) (S : Nat → Prop) (W : World),
    SameOn R w W → (∀ k, S k → ¬ R k ∧ k < W.heap.size) → Stable J → Stable Jx →
    (∀ S1 pre x W1, J S1 pre W1 → (pre ++ [x]) <+: xs → SameOn R W W1 → (∀ k, S1 k → ¬ R k ∧ k < W1.heap.size) →
      YieldAt Fence.wide 7 P l (encs x) W1 fun e W' =>
        (e = .returned (.bool true) ∧ ∃ S2, J S2 (pre ++ [x]) W' ∧ Fr S1 W1 W' ∧ Grows S1 S2 W1 W') ∨
        (e = .returned (.bool false) ∧ ∃ S2, Jx S2 (pre ++ [x]) W' ∧ Fr S1 W1 W' ∧ Grows S1 S2 W1 W')) →
    J S [] W →
    Calls P g (#[.func (.yield l) #[] #[]] ++ lb) W fun e W' => (∃ v, e = .returned v) ∧ ∃ S2, (J S2 xs W' ∨ ∃ pre, pre <+: xs ∧ Jx S2 pre W') ∧ Fr S W W' ∧ Grows S S2 W W'

theorem SeqOf.later {α : Type} {P : Program} {g : FuncId} {lb : Array Value} {encs : α → Array Value} {R : Nat → Prop} {xs : List α} {w w' : World}
    (h : SeqOf P g lb encs R xs w) (hs : SameOn R w w') : SeqOf P g lb encs R xs w' :=
  fun l J Jx S W hW => h l J Jx S W (hs.trans hW)

/-- How the body of a round may be left. -/
def fpPost {α : Type} (I : (Nat → Prop) → List α → World → Prop) (Ix : Code → (Nat → Prop) → List α → World → Prop) (S : Nat → Prop) (ys : List α) (W : World) : Exit → Act → World → Prop
  | .normal, _, W' => ∃ S', I S' ys W' ∧ Fr S W W' ∧ Grows S S' W W'
  | .ret, _, W' => ∃ S', Ix .ret S' ys W' ∧ Fr S W W' ∧ Grows S S' W W'
  | .exit id, _, W' => ∃ S', Ix (.exit id) S' ys W' ∧ Fr S W W' ∧ Grows S S' W W'
  | .goto t, _, W' => ∃ S', Ix (.goto t) S' ys W' ∧ Fr S W W' ∧ Grows S S' W W'
  | .panic _, _, _ => False
  | .outgrown, _, _ => False

theorem minus_plus {S : Nat → Prop} {L : Nat} (h : ∀ k, S k → k ≠ L ∧ k ≠ L + 1) : (fun k => (S k ∨ k = L ∨ k = L + 1) ∧ k ≠ L ∧ k ≠ L + 1) = S := by
  funext k
  apply propext
  constructor
  · rintro ⟨h1 | h1 | h1, h2, h3⟩
    · exact h1
    · exact absurd h1 h2
    · exact absurd h1 h3
  · exact fun hk => ⟨.inl hk, h k hk⟩

theorem wp_range {α : Type} {P : Program} {g : Operand} {ps : Array Tmp} {assign body : Code} {Q : Exit → Act → World → Prop} {a : Act} {w : World} {gf : Nat} {lb : Array Value}
    {encs : α → Array Value} {R : Nat → Prop} {xs : List α} {w0 : World}
    (hg : a.eval g = .func (.func gf) #[] lb) (eg : ∀ args w, (callFunc gf args).run P w = .ok (.enter gf args) w)
    (hseq : SeqOf P gf lb encs R xs w0) (hb0 : SameOn R w0 w) (hps : ∀ x, (encs x).size = ps.size)
    (S0 : Nat → Prop) (hS0 : ∀ k, S0 k → ¬ R k ∧ k < w.heap.size) (hR : ∀ k, R k → k < w.heap.size)
    (I : (Nat → Prop) → List α → World → Prop) (Ix : Code → (Nat → Prop) → List α → World → Prop) (hI : Stable I) (hIx : ∀ c, Stable (Ix c)) (h0 : I S0 [] w) (a₁ : α → Act)
    (hassign : ∀ (l : Nat) (x : α) (W : World) (K : Act → World → Prop), K (a₁ x) W →
      assign.wpIn (Fence.wide.inRound l) 7 P (Exit.then K (fun _ _ _ => False)) { tmps := (ps.zip (encs x)).foldl (fun t (p, v) => t.setIfInBounds p v) a.tmps, defers := [] } W)
    (hbody : ∀ (l : Nat) (S : Nat → Prop) (pre : List α) (x : α) (W : World), I S pre W → (pre ++ [x]) <+: xs → SameOn R w W → (∀ k, S k → ¬ R k ∧ k < W.heap.size) →
      body.wpIn (Fence.wide.inRound l) 7 P (fpPost I Ix S (pre ++ [x]) W) (a₁ x) W)
    (hdone : ∀ (D : Nat) (S : Nat → Prop) (W : World), I S xs W → Fr S0 w W → Grows S0 S w W → W.heap[D]? = some (.deferred (some [])) → w.heap.size ≤ D → ¬ S D →
      Q .normal { a with defers := { target := .collected D, args := #[] } :: a.defers } W)
    (hstop : ∀ (D : Nat) (c : Code) (S : Nat → Prop) (pre : List α) (W : World), pre <+: xs → Ix c S pre W → Fr S0 w W → Grows S0 S w W → W.heap[D]? = some (.deferred (some [])) → w.heap.size ≤ D → ¬ S D →
      c.wp P Q { a with defers := { target := .collected D, args := #[] } :: a.defers } W) :
    (Code.rangeFunc g ps assign body).wp P Q a w := by
  refine (wpIn_wide (n := 0)).1 (wpIn_rangeFunc ?_)
  intro fn hfn
  rw [show Fence.wide.round = none from rfl]
  obtain ⟨rec, hrec⟩ : ∃ rec : LoopState → Option Code → Loop, rec = fun st pe => { state := st, pending := pe, fn, tmps := a.tmps, params := ps, assign, body, defers := w.heap.size } := ⟨_, rfl⟩
  obtain ⟨L, hL⟩ : ∃ L, L = w.heap.size := ⟨_, rfl⟩
  obtain ⟨W1, hW1⟩ : ∃ W1, (w.alloc (.deferred (some []))).alloc (.loop (rec .ready none)) = W1 := ⟨_, rfl⟩
  have hz1 : W1.heap.size = L + 2 := by rw [← hW1, hL]; simp
  have hL1 : W1.heap[L + 1]? = some (.loop (rec .ready none)) := by
    rw [← hW1, hL]; have := World.alloc_heap_new (w.alloc (.deferred (some []))) (.loop (rec .ready none)); rwa [World.size_alloc] at this
  have hK1 : W1.heap[L]? = some (.deferred (some [])) := by
    rw [← hW1, hL]; exact (Below.heap_alloc _ _ _ (by simp)).trans (World.alloc_heap_new w _)
  have hf1 : Fr N0 w W1 := by rw [← hW1]; exact ((Fr.refl _ _).alloc _).alloc _
  have hI1 : I S0 [] W1 := hI _ _ _ _ h0 (hf1.same fun _ _ h => h)
  have hS0L : ∀ k, S0 k → k ≠ L ∧ k ≠ L + 1 := fun k hk => by have := (hS0 k hk).2; omega
  refine ⟨w.heap.size + 1, [{ target := .collected w.heap.size, args := #[] }], W1, { target := .fn (.func gf) lb, args := #[.func (.yield (w.heap.size + 1)) #[] #[]] }, W1, gf,
    #[.func (.yield (w.heap.size + 1)) #[] #[]] ++ lb, W1, ?_, ?_, ?_, ?_, fun h => absurd h (by simp [Fence.wide]), ?_⟩
  · rw [← hW1, hrec]; exact run_enterLoop_outer _ _ _ _ _
  · simp only [resolve, hg]
    simp [go_sem]
  · intro f' _; trivial
  · simp [invoke, go_sem, eg]
  · rw [← hL]
    refine callsIn_wide.2 ?_
    refine (hseq (L + 1)
      (fun S pre W => I (fun k => S k ∧ k ≠ L ∧ k ≠ L + 1) pre W ∧ S L ∧ S (L + 1) ∧ W.heap[L + 1]? = some (.loop (rec .ready none)) ∧ W.heap[L]? = some (.deferred (some [])))
      (fun S pre W => ∃ c, Ix c (fun k => S k ∧ k ≠ L ∧ k ≠ L + 1) pre W ∧ S L ∧ S (L + 1) ∧ W.heap[L + 1]? = some (.loop (rec .done (some c))) ∧ W.heap[L]? = some (.deferred (some [])))
      (fun k => S0 k ∨ k = L ∨ k = L + 1) W1
      (hb0.fr hf1 (fun _ _ h => h))
      (fun k hk => by
        rcases hk with hk | hk | hk
        · exact ⟨(hS0 k hk).1, by have := (hS0 k hk).2; omega⟩
        · exact ⟨fun hr => by have := hR k hr; omega, by omega⟩
        · exact ⟨fun hr => by have := hR k hr; omega, by omega⟩)
      (fun S pre A B hj hs => by
        obtain ⟨hi, hl, hl1, hr, hk⟩ := hj
        exact ⟨hI _ _ _ _ hi (hs.mono fun k hk _ => hk.1), hl, hl1, (hs.block _ hl1 (lt_of_block hr)).trans hr, (hs.block _ hl (lt_of_block hk)).trans hk⟩)
      (fun S pre A B hj hs => by
        obtain ⟨c, hi, hl, hl1, hr, hk⟩ := hj
        exact ⟨c, hIx c _ _ _ _ hi (hs.mono fun k hk _ => hk.1), hl, hl1, (hs.block _ hl1 (lt_of_block hr)).trans hr, (hs.block _ hl (lt_of_block hk)).trans hk⟩)
      ?_ ⟨by rw [minus_plus hS0L]; exact hI1, .inr (.inl rfl), .inr (.inr rfl), hL1, hK1⟩).mono ?_
    · rintro S1 pre x W ⟨hi, hs, hs1, hr, hk⟩ hpre hRW hbd
      have hlt : L + 1 < W.heap.size := lt_of_block hr
      have hy := run_yield (P := P) (args := encs x) hr (by rw [hrec]; exact hps x)
      rw [hrec] at hy
      refine ⟨fn, _, assign, body, hy, roundIn_of_wpIn hfn (hassign _ x W _ ⟨_, run_beginRound hr (by rw [hrec]), ?_⟩)⟩
      obtain ⟨Wb, hWb⟩ : ∃ Wb, W.putObj (L + 1) (.loop { rec .ready none with state := .busy }) = Wb := ⟨_, rfl⟩
      rw [hWb]
      have hl2 : Wb.heap[L + 1]? = some (.loop { rec .ready none with state := .busy }) := by rw [← hWb]; exact World.putObj_heap_same hlt
      have hk2 : Wb.heap[L]? = some (.deferred (some [])) := by rw [← hWb]; exact (World.putObj_heap_other (by omega)).trans hk
      have hzb : Wb.heap.size = W.heap.size := by rw [← hWb]; simp
      have hfb : Fr S1 W Wb := by rw [← hWb]; exact (Fr.refl _ _).putObj (.inl hs1) _
      have hib : I (fun k => S1 k ∧ k ≠ L ∧ k ≠ L + 1) pre Wb := hI _ _ _ _ hi (by rw [← hWb]; exact (SameOn.refl _ _).putObj (by simp) _)
      have hRb : SameOn R w Wb := (hf1.same (fun _ _ h => h)).trans (hRW.trans (hfb.same fun k hk hs => (hbd k hs).1 hk))
      refine wpIn_mono (hbody _ _ pre x _ hib hpre hRb (fun k hk => ⟨(hbd k hk.1).1, by have := (hbd k hk.1).2; omega⟩)) ?_
      have fin : ∀ (jump : Option Code) (S' : Nat → Prop) (W3 : World), Fr (fun k => S1 k ∧ k ≠ L ∧ k ≠ L + 1) Wb W3 → Grows (fun k => S1 k ∧ k ≠ L ∧ k ≠ L + 1) S' Wb W3 →
          (Instr.endRound (L + 1) jump).run P W3 = .ok (.bool jump.isNone) (W3.putObj (L + 1) (.loop (rec (if jump.isNone then .ready else .done) jump))) ∧
          (W3.putObj (L + 1) (.loop (rec (if jump.isNone then .ready else .done) jump))).heap[L + 1]? = some (.loop (rec (if jump.isNone then .ready else .done) jump)) ∧
          (W3.putObj (L + 1) (.loop (rec (if jump.isNone then .ready else .done) jump))).heap[L]? = some (.deferred (some [])) ∧
          (∀ k, S' k → k ≠ L ∧ k ≠ L + 1) ∧
          SameOn S' W3 (W3.putObj (L + 1) (.loop (rec (if jump.isNone then .ready else .done) jump))) ∧
          Fr S1 W (W3.putObj (L + 1) (.loop (rec (if jump.isNone then .ready else .done) jump))) ∧
          Grows S1 (fun k => S' k ∨ k = L ∨ k = L + 1) W (W3.putObj (L + 1) (.loop (rec (if jump.isNone then .ready else .done) jump))) := fun jump S' W3 hf3 hg3 => by
        have hl3 := (hf3.at (k := L + 1) (by simp) (by omega)).trans hl2
        have hk3 := (hf3.at (k := L) (by simp) (by omega)).trans hk2
        have := run_endRound (P := P) jump hl3
        rw [hrec] at this ⊢
        have hne : ∀ k, S' k → k ≠ L ∧ k ≠ L + 1 := fun k hk => by
          rcases (hg3 k hk).1 with h1 | h1
          · exact h1.2
          · omega
        refine ⟨this, World.putObj_heap_same (lt_of_block hl3), (World.putObj_heap_other (by omega)).trans hk3, hne, (SameOn.refl _ _).putObj (fun h => (hne _ h).2 rfl) _, ?_, ?_⟩
        · exact (hfb.trans hf3 (fun k hk => .inl hk.1)).putObj (.inl hs1) _
        · intro k hk
          have hz3 := hf3.size
          rcases hk with hk | hk | hk
          · refine ⟨?_, by simpa using (hg3 k hk).2⟩
            rcases (hg3 k hk).1 with h1 | h1
            · exact .inl h1.1
            · exact .inr (by omega)
          · exact ⟨.inl (by rw [hk]; exact hs), by simp; omega⟩
          · exact ⟨.inl (by rw [hk]; exact hs1), by simp; omega⟩
      rintro e a3 W3 hp
      cases e with
      | normal =>
        obtain ⟨S', hi3, hf3, hg3⟩ := hp
        obtain ⟨hr', hl4, hk4, hne, hso, hfr, hgr⟩ := fin none S' W3 hf3 hg3
        exact ⟨_, _, hr', .inl ⟨rfl, _, ⟨by rw [minus_plus hne]; exact hI _ _ _ _ hi3 hso, .inr (.inl rfl), .inr (.inr rfl), hl4, hk4⟩, hfr, hgr⟩⟩
      | ret =>
        obtain ⟨S', hi3, hf3, hg3⟩ := hp
        obtain ⟨hr', hl4, hk4, hne, hso, hfr, hgr⟩ := fin (some .ret) S' W3 hf3 hg3
        exact ⟨_, _, hr', .inr ⟨rfl, _, ⟨.ret, by rw [minus_plus hne]; exact hIx _ _ _ _ _ hi3 hso, .inr (.inl rfl), .inr (.inr rfl), hl4, hk4⟩, hfr, hgr⟩⟩
      | exit id =>
        obtain ⟨S', hi3, hf3, hg3⟩ := hp
        obtain ⟨hr', hl4, hk4, hne, hso, hfr, hgr⟩ := fin (some (.exit id)) S' W3 hf3 hg3
        exact ⟨_, _, hr', .inr ⟨rfl, _, ⟨.exit id, by rw [minus_plus hne]; exact hIx _ _ _ _ _ hi3 hso, .inr (.inl rfl), .inr (.inr rfl), hl4, hk4⟩, hfr, hgr⟩⟩
      | goto t =>
        obtain ⟨S', hi3, hf3, hg3⟩ := hp
        obtain ⟨hr', hl4, hk4, hne, hso, hfr, hgr⟩ := fin (some (.goto t)) S' W3 hf3 hg3
        exact ⟨_, _, hr', .inr ⟨rfl, _, ⟨.goto t, by rw [minus_plus hne]; exact hIx _ _ _ _ _ hi3 hso, .inr (.inl rfl), .inr (.inr rfl), hl4, hk4⟩, hfr, hgr⟩⟩
      | panic ch => exact hp.elim
      | outgrown => exact hp.elim
    · rintro e W2 ⟨⟨v, rfl⟩, S2, hj, hfr2, hgr2⟩
      have hfw : Fr S0 w W2 := (hf1.mono (T' := S0) fun _ h => h.elim).trans hfr2 (fun k hk => by
        rcases hk with hk | hk | hk
        · exact .inl hk
        · exact .inr (by omega)
        · exact .inr (by omega))
      have hgw : ∀ o, Grows S0 (fun k => S2 k ∧ k ≠ L ∧ k ≠ L + 1) w (W2.putObj (L + 1) o) := fun o k hk => by
        refine ⟨?_, by simpa using (hgr2 k hk.1).2⟩
        rcases (hgr2 k hk.1).1 with (h1 | h1 | h1) | h1
        · exact .inl h1
        · exact absurd h1 hk.2.1
        · exact absurd h1 hk.2.2
        · exact .inr (by omega)
      rcases hj with ⟨hi, hl, hl1, hr, hk⟩ | ⟨pre, hpre, c, hi, hl, hl1, hr, hk⟩
      · exact ⟨none, _, by have := run_endLoop (P := P) hr (by rw [hrec]; simp); rw [hrec] at this; exact this,
          hdone L _ _ (hI _ _ _ _ hi ((SameOn.refl _ _).putObj (by simp) _)) (hfw.putObj (.inr (by omega)) _) (hgw _) ((World.putObj_heap_other (by omega)).trans hk) (by omega) (by simp)⟩
      · exact ⟨some c, _, by have := run_endLoop (P := P) hr (by rw [hrec]; simp); rw [hrec] at this; exact this,
          wpIn_wide.2 (hstop L c _ pre _ hpre (hIx c _ _ _ _ hi ((SameOn.refl _ _).putObj (by simp) _)) (hfw.putObj (.inr (by omega)) _) (hgw _) ((World.putObj_heap_other (by omega)).trans hk) (by omega) (by simp))⟩

/-- The same where one number comes at a time and goes into one slot. -/
theorem wp_range1 {α : Type} {P : Program} {g : Operand} {ps : Array Tmp} {assign body : Code} {Q : Exit → Act → World → Prop} {a : Act} {w : World} {gf : Nat} {lb : Array Value}
    {enc : α → Value} {R : Nat → Prop} {xs : List α} {w0 : World} (p q : Tmp) (hps : ps = #[p])
    (hg : a.eval g = .func (.func gf) #[] lb) (eg : ∀ args w, (callFunc gf args).run P w = .ok (.enter gf args) w)
    (hseq : SeqOf P gf lb (fun x => #[enc x]) R xs w0) (hb0 : SameOn R w0 w)
    (S0 : Nat → Prop) (hS0 : ∀ k, S0 k → ¬ R k ∧ k < w.heap.size) (hR : ∀ k, R k → k < w.heap.size)
    (I : (Nat → Prop) → List α → World → Prop) (Ix : Code → (Nat → Prop) → List α → World → Prop) (hI : Stable I) (hIx : ∀ c, Stable (Ix c)) (h0 : I S0 [] w)
    (hassign : ∀ (l : Nat) (x : α) (W : World) (K : Act → World → Prop), K { tmps := (a.tmps.setIfInBounds p (enc x)).setIfInBounds q (enc x), defers := [] } W →
      assign.wpIn (Fence.wide.inRound l) 7 P (Exit.then K (fun _ _ _ => False)) { tmps := a.tmps.setIfInBounds p (enc x), defers := [] } W)
    (hbody : ∀ (l : Nat) (S : Nat → Prop) (pre : List α) (x : α) (W : World), I S pre W → (pre ++ [x]) <+: xs → SameOn R w W → (∀ k, S k → ¬ R k ∧ k < W.heap.size) →
      body.wpIn (Fence.wide.inRound l) 7 P (fpPost I Ix S (pre ++ [x]) W) { tmps := (a.tmps.setIfInBounds p (enc x)).setIfInBounds q (enc x), defers := [] } W)
    (hdone : ∀ (D : Nat) (S : Nat → Prop) (W : World), I S xs W → Fr S0 w W → Grows S0 S w W → W.heap[D]? = some (.deferred (some [])) → w.heap.size ≤ D → ¬ S D →
      Q .normal { a with defers := { target := .collected D, args := #[] } :: a.defers } W)
    (hstop : ∀ (D : Nat) (c : Code) (S : Nat → Prop) (pre : List α) (W : World), pre <+: xs → Ix c S pre W → Fr S0 w W → Grows S0 S w W → W.heap[D]? = some (.deferred (some [])) → w.heap.size ≤ D → ¬ S D →
      c.wp P Q { a with defers := { target := .collected D, args := #[] } :: a.defers } W) :
    (Code.rangeFunc g ps assign body).wp P Q a w := by
  subst hps
  exact wp_range hg eg hseq hb0 (fun _ => rfl) S0 hS0 hR I Ix hI hIx h0 (fun x => { tmps := (a.tmps.setIfInBounds p (enc x)).setIfInBounds q (enc x), defers := [] })
    (fun l x W K hK => by simpa using hassign l x W K hK) hbody hdone hstop

/-- An append that writes at least one cell, in a fenced walk. -/
theorem wpListIn_append_lies {F : Fence} {nn : Nat} {P : Program} (w : World) {ops : Array Oper} {rest : List Oper} {o : Oper} {a : Act} {Q : Exit → Act → World → Prop} (hgd : o.guard = none) (s x : Operand) (t : TypeId)
    (ho : o.op = .call { callee := .builtin .append, args := #[s, x], argTypes := #[t, t] })
    (base : Nat) (e : TypeId) (i : TypeInfo) (z : Value) (size bytes : Nat) (ht : P.underlying t = some (.slice e)) (hi : P.info? e = some i) (hz : i.zero = some z)
    (hsize : i.size = size) (hby : i.bytes = bytes) (hzs : z.cells.size = size) (hsz : 0 < size)
    (v : Value) (n : Nat) (xs : List Value) (hs : a.eval s = v) (hown : w.ownsRow base e size v n xs)
    (ad : Addr) (m c : Nat) (news : List Value) (hx : a.eval x = .slice (some ad) m c) (hl : news.length = m * size) (hnews : ∀ j u, news[j]? = some u → w.cell? (ad.add j) = some u) (h1 : ∀ u ∈ news, u.oneCell' = true)
    (hm : 0 < m) (h63 : n + m ≤ maxLen) (hbytes : (n + m) * bytes ≤ 140737488355328) (hbase : base ≤ w.heap.size) (H : Nat) (hH : w.heap.size = H)
    (h : ∀ g cap w', w'.ownsRow base e size (.slice (some ⟨g, 0, none⟩) (n + m) cap) (n + m) (xs ++ news) → w.grownBy w' v.ownBlock → (v.ownBlock = some g ∨ g = H) → g < w'.heap.size → wpListIn F nn P ops Q rest (a.put o.dst (.slice (some ⟨g, 0, none⟩) (n + m) cap)) w') : wpListIn F nn P ops Q (o :: rest) a w := by
  refine wpListIn_plain hgd fun K hK' => ?_
  obtain ⟨g, cap, w', hrun, r1, r2, r3, r4⟩ := run_append_lies (P := P) w t o.type base e i z size bytes ht hi hz hsize hby hzs hsz v n xs hown ad m c news hl hnews h1 hm h63 hbytes hbase H hH
  unfold Oper.wpIn
  refine ⟨?_, ?_⟩
  · simp [Oper.about, ho, resolve, Target.leads, Sem.run_pure]
  · rw [Oper.semAt_plain F _ _ (by rw [ho]; intro c hc'; cases hc')]
    simp [execOp, ho, resolve, invoke, builtin, hs, hx, hrun, Result.andThen]
    exact hK' _ _ (h g cap w' r1 r2 r3 r4)

end Go.Proofs.YtefepfiijoafbaaGreat
