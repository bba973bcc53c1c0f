/- slices.Sorted(maps.Keys(m)) at map[uint64][]api.Write: the keys, rising. slices.Sorted(maps.Keys(m)) at map[string]*post.List: the keys, rising. A range over a function that hands out what is not known ahead (keys in whatever order; things in memory of its own). -/
import Derived.Test.YtefepfiijoafbaaGreatQIterU
import Derived.Test.YtefepfiijoafbaaGreatQCut
import Derived.Test.YtefepfiijoafbaaGreatQShP
import Derived.Test.YtefepfiijoafbaaGreatQIterS
import Derived.Test.YtefepfiijoafbaaGreatQBase
namespace Go.Proofs.YtefepfiijoafbaaGreat
open Go.RowKit Go.Shelf Go.Maps Go.Sort
attribute [local go_sem] Oper.semAt_some
set_option linter.unusedVariables false
set_option linter.unusedSimpArgs false

theorem u6Keys_mem {H : Type} {D0 : DataW H} {P : Program} {k : TypeId} {R : Value → Option (DataW H × List MemPlace)} {w : World} {b n : Nat} (hown : w.ownsMap P k R b n D0) (K : Keyed P k) (hk : P.underlying k = some (.int .u64)) :
    (u6Keys D0).Nodup ∧ ∀ x, x ∈ u6Keys D0 ↔ has D0 (.int .u64 x) = true := by
  obtain ⟨es, hD, hpw, _⟩ := hown.entries K
  obtain ⟨es', hD', hko⟩ := hown.keysOf
  obtain rfl : es = es' := by rw [hD] at hD'; simpa using hD'
  subst hD
  have hk' : ∀ p ∈ es, ∃ x, p.1 = .int .u64 x := fun p hp => by obtain ⟨v, hv⟩ := hko p hp; obtain ⟨x, _, hx, _⟩ := keyOf_u64 hk hv; exact ⟨x, hx⟩
  refine ⟨?_, fun x => ?_⟩
  · show (es.map fun p => u6Of p.1).Nodup
    refine List.pairwise_map.2 (hpw.imp_of_mem fun {p q} hp' hq' hne e => hne ?_)
    obtain ⟨a, ha⟩ := hk' p hp'
    obtain ⟨b, hb⟩ := hk' q hq'
    rw [ha, hb] at e ⊢
    exact congrArg _ e
  · rw [has_eq, List.any_eq_true]
    show x ∈ es.map (fun p => u6Of p.1) ↔ _
    rw [List.mem_map]
    constructor
    · rintro ⟨p, hp', rfl⟩
      obtain ⟨a, ha⟩ := hk' p hp'
      exact ⟨p, hp', by rw [ha]; simp [Lit.sameKey, u6Of]⟩
    · rintro ⟨p, hp', hs⟩
      obtain ⟨a, ha⟩ := hk' p hp'
      rw [ha] at hs
      exact ⟨p, hp', by rw [ha]; simpa [Lit.sameKey, u6Of] using hs⟩
theorem sorts64 (m : Nat) : V64.SortsIn Fence.wide m :=
  ⟨fun blk off cap ss W hH hblk hsz => callsIn_wide.2 (U.slices_Sort_int blk off cap ss W hH hblk hsz), fun p cap W => callsIn_wide.2 ((U.Sort_int_nil p cap W).mono fun e w' h => ⟨h.1, h.2⟩)⟩
theorem rises_mergeSort {ss : List Int} (hn : ss.Nodup) : RisesBy id (ss.mergeSort fun x y => decide (x ≤ y)) := by
  have tr : ∀ a b c : Int, decide (a ≤ b) = true → decide (b ≤ c) = true → decide (a ≤ c) = true := fun a b c h1 h2 => by simp only [decide_eq_true_eq] at *; exact Int.le_trans h1 h2
  have tot : ∀ a b : Int, (decide (a ≤ b) || decide (b ≤ a)) = true := fun a b => by simp only [Bool.or_eq_true, decide_eq_true_eq]; exact Int.le_total a b
  have h1 := List.pairwise_mergeSort tr tot ss
  have h2 : (ss.mergeSort fun x y => decide (x ≤ y)).Nodup := (List.mergeSort_perm ss _).nodup_iff.2 hn
  refine (h1.and h2).imp fun {a b} h => ?_
  have h3 : a ≤ b := by simpa using h.1
  have h4 : a ≠ b := h.2
  show a < b
  omega
/-- What slices.Sorted(maps.Keys(m)) hands back. -/
def Keys4 (F : Lit → Option Value) (W : World) (e : Ending) (w' : World) : Prop :=
  ∃ v ks, e = .returned v ∧ RisesBy id ks ∧ (∀ x, x ∈ ks ↔ (F (litU x)).isSome = true) ∧ (∀ x ∈ ks, (Lit.int .u64 x).wf = true) ∧ w'.ownsRow W.heap.size 33 1 v ks.length (ks.map (Value.int .u64)) ∧ Fr N0 W w'
theorem sortedW_any (W : World) (Bm b N : Nat) (F : Lit → Option Value) (h : MapF Tryz.prog 33 W b N F) (hB : W.heap[Bm]? = some (.cells #[.map (some b)] 120 (0, 0))) (hN : N ≤ 1000000) :
    Calls Tryz.prog 61 #[.func (.func 127) #[] #[.pointer (some ⟨Bm, 0, none⟩)]] W (Keys4 F W) := by
  obtain ⟨D, hD, hV⟩ := h
  have hsz : Maps.size D ≤ N := hD.size_le
  have hseq := V64.keys_gives (R := heldR) Fence.wide 2 trivial rfl (by omega) Bm b N D W (lt_of_block hB) (cell_of_one hB) hD
  have hc := (callsIn_wide (n := 5)).1 (V64.sorted_in Fence.wide 5 trivial trivial trivial trivial rfl (by omega) (sorts64 _) (enters_of Tryz.func84 (by kernel_rfl) rfl) 127 #[.pointer (some ⟨Bm, 0, none⟩)] trivial (enters_of Tryz.func127 (by kernel_rfl) rfl) _ _ (by unfold maxLen; omega) (by omega) W hseq)
  refine hc.mono fun e w' ⟨v, ss, he, hp, hrow, hnil, hb⟩ => ?_
  obtain ⟨hnd, hmem⟩ := u6Keys_mem hD lawU Tryz.underlying33
  have hms := List.mergeSort_perm ss fun x y => decide (x ≤ y)
  refine ⟨v, _, he, rises_mergeSort (hp.nodup_iff.2 hnd), fun x => ?_, fun x hx => ?_, ?_, fr0_of_below hb⟩
  · rw [hms.mem_iff, hp.mem_iff, hmem x, hV.has]
  · exact u6Keys_wf hD Tryz.underlying33 x (hp.mem_iff.1 (hms.mem_iff.1 hx))
  · rw [hms.length_eq]; exact hrow
theorem keysW_any (W : World) (b : Nat) : Calls Tryz.prog 62 #[.map (some b)] W fun e w' => e = .returned (.func (.func 127) #[] #[.pointer (some ⟨W.heap.size, 0, none⟩)]) ∧ w' = W.alloc (.cells #[.map (some b)] 120) :=
  (callsIn_wide (n := 5)).1 (V64.keys_in Fence.wide 5 trivial rfl (some b) W)
end Go.Proofs.YtefepfiijoafbaaGreat
namespace Go.Proofs.YtefepfiijoafbaaGreat
open Go.RowKit Go.Shelf Go.Maps Go.Sort
attribute [local go_sem] Oper.semAt_some
set_option linter.unusedVariables false
set_option linter.unusedSimpArgs false

theorem strKeys_mem {H : Type} {D0 : DataW H} {P : Program} {k : TypeId} {R : Value → Option (DataW H × List MemPlace)} {w : World} {b n : Nat} (hown : w.ownsMap P k R b n D0) (K : Keyed P k) (hk : P.underlying k = some .string) :
    (strKeys D0).Nodup ∧ ∀ x, x ∈ strKeys D0 ↔ has D0 (.string x) = true := by
  obtain ⟨es, hD, hpw, _⟩ := hown.entries K
  obtain ⟨es', hD', hko⟩ := hown.keysOf
  obtain rfl : es = es' := by rw [hD] at hD'; simpa using hD'
  subst hD
  have hk' : ∀ p ∈ es, ∃ x, p.1 = .string x := fun p hp => by obtain ⟨v, hv⟩ := hko p hp; obtain ⟨x, _, hx, _⟩ := Maps.keyOf_str hk hv; exact ⟨x, hx⟩
  refine ⟨?_, fun x => ?_⟩
  · show (es.map fun p => strOf p.1).Nodup
    refine List.pairwise_map.2 (hpw.imp_of_mem fun {p q} hp' hq' hne e => hne ?_)
    obtain ⟨a, ha⟩ := hk' p hp'
    obtain ⟨b, hb⟩ := hk' q hq'
    rw [ha, hb] at e ⊢
    exact congrArg _ e
  · rw [has_eq, List.any_eq_true]
    show x ∈ es.map (fun p => strOf p.1) ↔ _
    rw [List.mem_map]
    constructor
    · rintro ⟨p, hp', rfl⟩
      obtain ⟨a, ha⟩ := hk' p hp'
      exact ⟨p, hp', by rw [ha]; simp [Lit.sameKey, strOf]⟩
    · rintro ⟨p, hp', hs⟩
      obtain ⟨a, ha⟩ := hk' p hp'
      rw [ha] at hs
      exact ⟨p, hp', by rw [ha]; simpa [Lit.sameKey, strOf] using hs⟩
theorem sortsStr (m : Nat) : VStr.SortsIn Fence.wide m :=
  ⟨fun blk off cap ss W hH hblk hsz => callsIn_wide.2 (Tryz.slices_Sort_string blk off cap ss W hH hblk hsz), fun p cap W => callsIn_wide.2 (Tryz.slices_Sort_string_none p cap W)⟩
/-- What slices.Sorted(maps.Keys(m)) hands back. -/
def KeysS (F : Lit → Option Value) (W : World) (e : Ending) (w' : World) : Prop :=
  ∃ v ks, e = .returned v ∧ RisesTo ks (fun x => (F (.string x)).isSome = true) ∧ (∀ x ∈ ks, x.length ≤ maxLen) ∧ w'.ownsRow W.heap.size 9 1 v ks.length (ks.map encStr) ∧ Fr N0 W w'
theorem sortedL_any (W : World) (Bm b N : Nat) (F : Lit → Option Value) (h : MapF Tryz.prog 9 W b N F) (hB : W.heap[Bm]? = some (.cells #[.map (some b)] 119 (0, 0))) (hN : N ≤ 1000000) :
    Calls Tryz.prog 67 #[.func (.func 130) #[] #[.pointer (some ⟨Bm, 0, none⟩)]] W (KeysS F W) := by
  obtain ⟨D, hD, hV⟩ := h
  have hsz : Maps.size D ≤ N := hD.size_le
  have hseq := VStr.keys_gives (R := heldR) Fence.wide 2 trivial rfl (by omega) Bm b N D W (lt_of_block hB) (cell_of_one hB) hD
  have hc := (callsIn_wide (n := 5)).1 (VStr.sorted_in Fence.wide 5 trivial trivial trivial trivial rfl (by omega) (sortsStr _) (enters_of Tryz.func129 (by kernel_rfl) rfl) 130 #[.pointer (some ⟨Bm, 0, none⟩)] trivial (enters_of Tryz.func130 (by kernel_rfl) rfl) _ _ (by unfold maxLen; omega) (by omega) W hseq)
  refine hc.mono fun e w' ⟨v, ss, he, hp, hrow, hnil, hb⟩ => ?_
  obtain ⟨hnd, hmem⟩ := strKeys_mem hD lawSt Tryz.underlying9
  have hms := List.mergeSort_perm ss fun x y => decide (x ≤ y)
  refine ⟨v, _, he, rises_sort (hp.nodup_iff.2 hnd) fun x => by rw [hp.mem_iff, hmem x, hV.has], fun x hx => ?_, ?_, fr0_of_below hb⟩
  · exact strKeys_le hD Tryz.underlying9 x (hp.mem_iff.1 (hms.mem_iff.1 hx))
  · have := (List.mergeSort_perm ss leB).length_eq
    rw [this]; exact hrow
theorem keysL_any (W : World) (b : Nat) : Calls Tryz.prog 68 #[.map (some b)] W fun e w' => e = .returned (.func (.func 130) #[] #[.pointer (some ⟨W.heap.size, 0, none⟩)]) ∧ w' = W.alloc (.cells #[.map (some b)] 119) :=
  (callsIn_wide (n := 5)).1 (VStr.keys_in Fence.wide 5 trivial rfl (some b) W)
end Go.Proofs.YtefepfiijoafbaaGreat
namespace Go.Proofs.YtefepfiijoafbaaGreat
open Go.RowKit Go.Shelf
set_option linter.unusedVariables false
set_option linter.unusedSimpArgs false

/-- The blocks Z are the iterator's own: laid anew, turned by nobody once they are told of. -/
def StableZ {α : Type} (J : (Nat → Prop) → (Nat → Prop) → List α → World → Prop) : Prop := ∀ Z S pre A B, J Z S pre A → SameOn S A B → SameOn Z A B → J Z S pre B
/-- The function value .func (.func g) #[] lb, made in w, hands elements to yield, one after the other, and reads the blocks R alone: what came before bears hist, the whole bears fin, of each element ok is told. -/
def SeqP {α : Type} (P : Program) (g : FuncId) (lb : Array Value) (encs : α → Array Value) (ok : (Nat → Prop) → α → World → Prop) (hist fin : List α → Prop) (R : Nat → Prop) (w : World) : Prop :=
  ∀ (l : Nat) (J Jx : (Nat → Prop) → (Nat → Prop) → List α → World → Prop) (S : Nat → Prop) (W : World),
    SameOn R w W → (∀ k, S k → ¬ R k ∧ k < W.heap.size) → StableZ J → StableZ Jx →
    (∀ Z S1 pre x W1, (∀ k, Z k → W.heap.size ≤ k ∧ k < W1.heap.size ∧ ¬ S1 k) → J Z S1 pre W1 → hist (pre ++ [x]) → ok Z x W1 → SameOn R W W1 → (∀ k, S1 k → ¬ R k ∧ k < W1.heap.size) →
      YieldAt Fence.wide 7 P l (encs x) W1 fun e W' =>
        (e = .returned (.bool true) ∧ ∃ S2, J Z S2 (pre ++ [x]) W' ∧ Fr S1 W1 W' ∧ Grows S1 S2 W1 W') ∨
        (e = .returned (.bool false) ∧ ∃ S2, Jx Z S2 (pre ++ [x]) W' ∧ Fr S1 W1 W' ∧ Grows S1 S2 W1 W')) →
    (∀ Z W1, Fr N0 W W1 → (∀ k, Z k → W.heap.size ≤ k ∧ k < W1.heap.size) → J Z S [] W1) →
    Calls P g (#[.func (.yield l) #[] #[]] ++ lb) W fun e W' => (∃ v, e = .returned v) ∧ ∃ Z S2, (∀ k, Z k → W.heap.size ≤ k ∧ k < W'.heap.size ∧ ¬ S2 k) ∧ ((∃ xs, fin xs ∧ J Z S2 xs W') ∨ ∃ pre, Jx Z S2 pre W') ∧ Fr S W W' ∧ Grows S S2 W W'
theorem SeqP.later {α : Type} {P : Program} {g : FuncId} {lb : Array Value} {encs : α → Array Value} {ok : (Nat → Prop) → α → World → Prop} {hist fin : List α → Prop} {R : Nat → Prop} {w w' : World}
    (h : SeqP P g lb encs ok hist fin R w) (hs : SameOn R w w') : SeqP P g lb encs ok hist fin R w' :=
  fun l J Jx S W hW => h l J Jx S W (hs.trans hW)

def fpPostP {α : Type} (I : (Nat → Prop) → (Nat → Prop) → List α → World → Prop) (Ix : Code → (Nat → Prop) → (Nat → Prop) → List α → World → Prop) (Z S : Nat → Prop) (ys : List α) (W : World) : Exit → Act → World → Prop := fpPost (I Z) (fun c => Ix c Z) S ys W

theorem wp_rangeP {α : Type} {P : Program} {g : Operand} {ps : Array Tmp} {assign body : Code} {Q : Exit → Act → World → Prop} {a : Act} {w : World} {gf : Nat} {lb : Array Value}
    {encs : α → Array Value} {ok : (Nat → Prop) → α → World → Prop} {hist fin : List α → Prop} {R : Nat → Prop} {w0 : World}
    (hg : a.eval g = .func (.func gf) #[] lb) (eg : ∀ args w, (callFunc gf args).run P w = .ok (.enter gf args) w)
    (hseq : SeqP P gf lb encs ok hist fin R w0) (hok : ∀ Z x A B, ok Z x A → SameOn Z A B → ok Z x B) (hb0 : SameOn R w0 w) (hps : ∀ x, (encs x).size = ps.size)
    (S0 : Nat → Prop) (hS0 : ∀ k, S0 k → ¬ R k ∧ k < w.heap.size) (hR : ∀ k, R k → k < w.heap.size)
    (I : (Nat → Prop) → (Nat → Prop) → List α → World → Prop) (Ix : Code → (Nat → Prop) → (Nat → Prop) → List α → World → Prop) (hI : StableZ I) (hIx : ∀ c, StableZ (Ix c)) (h0 : ∀ Z W, Fr N0 w W → (∀ k, Z k → w.heap.size ≤ k ∧ k < W.heap.size) → I Z S0 [] W) (a₁ : α → Act)
    (hassign : ∀ (l : Nat) (x : α) (W : World) (K : Act → World → Prop), K (a₁ x) W →
      assign.wpIn (Fence.wide.inRound l) 7 P (Exit.then K (fun _ _ _ => False)) { tmps := (ps.zip (encs x)).foldl (fun t (p, v) => t.setIfInBounds p v) a.tmps, defers := [] } W)
    (hbody : ∀ (l : Nat) (Z S : Nat → Prop) (pre : List α) (x : α) (W : World), (∀ k, Z k → w.heap.size ≤ k ∧ k < W.heap.size ∧ ¬ S k) → I Z S pre W → hist (pre ++ [x]) → ok Z x W → SameOn R w W → (∀ k, S k → ¬ R k ∧ k < W.heap.size) →
      body.wpIn (Fence.wide.inRound l) 7 P (fpPostP I Ix Z S (pre ++ [x]) W) (a₁ x) W)
    (hdone : ∀ (D : Nat) (Z S : Nat → Prop) (xs : List α) (W : World), fin xs → (∀ k, Z k → w.heap.size ≤ k ∧ k < W.heap.size ∧ ¬ S k) → I Z S xs W → Fr S0 w W → Grows S0 S w W → W.heap[D]? = some (.deferred (some [])) → w.heap.size ≤ D → ¬ S D → ¬ Z D →
      Q .normal { a with defers := { target := .collected D, args := #[] } :: a.defers } W)
    (hstop : ∀ (D : Nat) (c : Code) (Z S : Nat → Prop) (pre : List α) (W : World), (∀ k, Z k → w.heap.size ≤ k ∧ k < W.heap.size ∧ ¬ S k) → Ix c Z S pre W → Fr S0 w W → Grows S0 S w W → W.heap[D]? = some (.deferred (some [])) → w.heap.size ≤ D → ¬ S D →
      c.wp P Q { a with defers := { target := .collected D, args := #[] } :: a.defers } W) :
    (Code.rangeFunc g ps assign body).wp P Q a w := by
  refine (wpIn_wide (n := 0)).1 (wpIn_rangeFunc ?_)
  intro fn hfn
  rw [show Fence.wide.round = none from rfl]
  obtain ⟨rec, hrec⟩ : ∃ rec : LoopState → Option Code → Loop, rec = fun st pe => { state := st, pending := pe, fn, tmps := a.tmps, params := ps, assign, body, defers := w.heap.size } := ⟨_, rfl⟩
  obtain ⟨L, hL⟩ : ∃ L, L = w.heap.size := ⟨_, rfl⟩
  obtain ⟨W1, hW1⟩ : ∃ W1, (w.alloc (.deferred (some []))).alloc (.loop (rec .ready none)) = W1 := ⟨_, rfl⟩
  have hz1 : W1.heap.size = L + 2 := by rw [← hW1, hL]; simp
  have hL1 : W1.heap[L + 1]? = some (.loop (rec .ready none)) := by
    rw [← hW1, hL]; have := World.alloc_heap_new (w.alloc (.deferred (some []))) (.loop (rec .ready none)); rwa [World.size_alloc] at this
  have hK1 : W1.heap[L]? = some (.deferred (some [])) := by
    rw [← hW1, hL]; exact (Below.heap_alloc _ _ _ (by simp)).trans (World.alloc_heap_new w _)
  have hf1 : Fr N0 w W1 := by rw [← hW1]; exact ((Fr.refl _ _).alloc _).alloc _
  have hS0L : ∀ k, S0 k → k ≠ L ∧ k ≠ L + 1 := fun k hk => by have := (hS0 k hk).2; omega
  refine ⟨w.heap.size + 1, [{ target := .collected w.heap.size, args := #[] }], W1, { target := .fn (.func gf) lb, args := #[.func (.yield (w.heap.size + 1)) #[] #[]] }, W1, gf,
    #[.func (.yield (w.heap.size + 1)) #[] #[]] ++ lb, W1, ?_, ?_, ?_, ?_, fun h => absurd h (by simp [Fence.wide]), ?_⟩
  · rw [← hW1, hrec]; exact run_enterLoop_outer _ _ _ _ _
  · simp only [resolve, hg]
    simp [go_sem]
  · intro f' _; trivial
  · simp [invoke, go_sem, eg]
  · rw [← hL]
    refine callsIn_wide.2 ?_
    refine (hseq (L + 1)
      (fun Z S pre W => I Z (fun k => S k ∧ k ≠ L ∧ k ≠ L + 1) pre W ∧ S L ∧ S (L + 1) ∧ W.heap[L + 1]? = some (.loop (rec .ready none)) ∧ W.heap[L]? = some (.deferred (some [])))
      (fun Z S pre W => ∃ c, Ix c Z (fun k => S k ∧ k ≠ L ∧ k ≠ L + 1) pre W ∧ S L ∧ S (L + 1) ∧ W.heap[L + 1]? = some (.loop (rec .done (some c))) ∧ W.heap[L]? = some (.deferred (some [])))
      (fun k => S0 k ∨ k = L ∨ k = L + 1) W1
      (hb0.fr hf1 (fun _ _ h => h))
      (fun k hk => by
        rcases hk with hk | hk | hk
        · exact ⟨(hS0 k hk).1, by have := (hS0 k hk).2; omega⟩
        · exact ⟨fun hr => by have := hR k hr; omega, by omega⟩
        · exact ⟨fun hr => by have := hR k hr; omega, by omega⟩)
      (fun Z S pre A B hj hs hz => by
        obtain ⟨hi, hl, hl1, hr, hk⟩ := hj
        exact ⟨hI _ _ _ _ _ hi (hs.mono fun k hk _ => hk.1) hz, hl, hl1, (hs.block _ hl1 (lt_of_block hr)).trans hr, (hs.block _ hl (lt_of_block hk)).trans hk⟩)
      (fun Z S pre A B hj hs hz => by
        obtain ⟨c, hi, hl, hl1, hr, hk⟩ := hj
        exact ⟨c, hIx c _ _ _ _ _ hi (hs.mono fun k hk _ => hk.1) hz, hl, hl1, (hs.block _ hl1 (lt_of_block hr)).trans hr, (hs.block _ hl (lt_of_block hk)).trans hk⟩)
      ?_ (fun Z W1' hf' hZ => ⟨by rw [minus_plus hS0L]; exact h0 Z W1' (hf1.then0 hf') (fun k hk => ⟨by have := (hZ k hk).1; omega, (hZ k hk).2⟩), .inr (.inl rfl), .inr (.inr rfl), (hf'.at (k := L + 1) id (by omega)).trans hL1, (hf'.at (k := L) id (by omega)).trans hK1⟩)).mono ?_
    · rintro Z S1 pre x W hZ ⟨hi, hs, hs1, hr, hk⟩ hpre hox hRW hbd
      have hZL : ¬ Z (L + 1) := fun h => by have := (hZ _ h).1; omega
      have hlt : L + 1 < W.heap.size := lt_of_block hr
      have hy := run_yield (P := P) (args := encs x) hr (by rw [hrec]; exact hps x)
      rw [hrec] at hy
      refine ⟨fn, _, assign, body, hy, roundIn_of_wpIn hfn (hassign _ x W _ ⟨_, run_beginRound hr (by rw [hrec]), ?_⟩)⟩
      obtain ⟨Wb, hWb⟩ : ∃ Wb, W.putObj (L + 1) (.loop { rec .ready none with state := .busy }) = Wb := ⟨_, rfl⟩
      rw [hWb]
      have hl2 : Wb.heap[L + 1]? = some (.loop { rec .ready none with state := .busy }) := by rw [← hWb]; exact World.putObj_heap_same hlt
      have hk2 : Wb.heap[L]? = some (.deferred (some [])) := by rw [← hWb]; exact (World.putObj_heap_other (by omega)).trans hk
      have hzb : Wb.heap.size = W.heap.size := by rw [← hWb]; simp
      have hfb : Fr S1 W Wb := by rw [← hWb]; exact (Fr.refl _ _).putObj (.inl hs1) _
      have hzw : SameOn Z W Wb := by rw [← hWb]; exact (SameOn.refl _ _).putObj hZL _
      have hib : I Z (fun k => S1 k ∧ k ≠ L ∧ k ≠ L + 1) pre Wb := hI _ _ _ _ _ hi (by rw [← hWb]; exact (SameOn.refl _ _).putObj (by simp) _) hzw
      have hRb : SameOn R w Wb := (hf1.same (fun _ _ h => h)).trans (hRW.trans (hfb.same fun k hk hs => (hbd k hs).1 hk))
      refine wpIn_mono (hbody _ Z _ pre x _ (fun k hk => ⟨by have := (hZ k hk).1; omega, by have := (hZ k hk).2.1; omega, fun h => (hZ k hk).2.2 h.1⟩) hib hpre (hok _ _ _ _ hox hzw) hRb (fun k hk => ⟨(hbd k hk.1).1, by have := (hbd k hk.1).2; omega⟩)) ?_
      have fin : ∀ (jump : Option Code) (S' : Nat → Prop) (W3 : World), Fr (fun k => S1 k ∧ k ≠ L ∧ k ≠ L + 1) Wb W3 → Grows (fun k => S1 k ∧ k ≠ L ∧ k ≠ L + 1) S' Wb W3 →
          (Instr.endRound (L + 1) jump).run P W3 = .ok (.bool jump.isNone) (W3.putObj (L + 1) (.loop (rec (if jump.isNone then .ready else .done) jump))) ∧
          (W3.putObj (L + 1) (.loop (rec (if jump.isNone then .ready else .done) jump))).heap[L + 1]? = some (.loop (rec (if jump.isNone then .ready else .done) jump)) ∧
          (W3.putObj (L + 1) (.loop (rec (if jump.isNone then .ready else .done) jump))).heap[L]? = some (.deferred (some [])) ∧
          (∀ k, S' k → k ≠ L ∧ k ≠ L + 1) ∧
          SameOn S' W3 (W3.putObj (L + 1) (.loop (rec (if jump.isNone then .ready else .done) jump))) ∧
          Fr S1 W (W3.putObj (L + 1) (.loop (rec (if jump.isNone then .ready else .done) jump))) ∧
          Grows S1 (fun k => S' k ∨ k = L ∨ k = L + 1) W (W3.putObj (L + 1) (.loop (rec (if jump.isNone then .ready else .done) jump))) := fun jump S' W3 hf3 hg3 => by
        have hl3 := (hf3.at (k := L + 1) (by simp) (by omega)).trans hl2
        have hk3 := (hf3.at (k := L) (by simp) (by omega)).trans hk2
        have := run_endRound (P := P) jump hl3
        rw [hrec] at this ⊢
        have hne : ∀ k, S' k → k ≠ L ∧ k ≠ L + 1 := fun k hk => by
          rcases (hg3 k hk).1 with h1 | h1
          · exact h1.2
          · omega
        refine ⟨this, World.putObj_heap_same (lt_of_block hl3), (World.putObj_heap_other (by omega)).trans hk3, hne, (SameOn.refl _ _).putObj (fun h => (hne _ h).2 rfl) _, ?_, ?_⟩
        · exact (hfb.trans hf3 (fun k hk => .inl hk.1)).putObj (.inl hs1) _
        · intro k hk
          have hz3 := hf3.size
          rcases hk with hk | hk | hk
          · refine ⟨?_, by simpa using (hg3 k hk).2⟩
            rcases (hg3 k hk).1 with h1 | h1
            · exact .inl h1.1
            · exact .inr (by omega)
          · exact ⟨.inl (by rw [hk]; exact hs), by simp; omega⟩
          · exact ⟨.inl (by rw [hk]; exact hs1), by simp; omega⟩
      have hzp : ∀ (W3 : World) (o : Option Code), SameOn Z W3 (W3.putObj (L + 1) (.loop (rec (if o.isNone then .ready else .done) o))) := fun W3 o => (SameOn.refl _ _).putObj hZL _
      rintro e a3 W3 hp
      cases e with
      | normal =>
        obtain ⟨S', hi3, hf3, hg3⟩ := hp
        obtain ⟨hr', hl4, hk4, hne, hso, hfr, hgr⟩ := fin none S' W3 hf3 hg3
        exact ⟨_, _, hr', .inl ⟨rfl, _, ⟨by rw [minus_plus hne]; exact hI _ _ _ _ _ hi3 hso (hzp W3 none), .inr (.inl rfl), .inr (.inr rfl), hl4, hk4⟩, hfr, hgr⟩⟩
      | ret =>
        obtain ⟨S', hi3, hf3, hg3⟩ := hp
        obtain ⟨hr', hl4, hk4, hne, hso, hfr, hgr⟩ := fin (some .ret) S' W3 hf3 hg3
        exact ⟨_, _, hr', .inr ⟨rfl, _, ⟨.ret, by rw [minus_plus hne]; exact hIx _ _ _ _ _ _ hi3 hso (hzp W3 _), .inr (.inl rfl), .inr (.inr rfl), hl4, hk4⟩, hfr, hgr⟩⟩
      | exit id =>
        obtain ⟨S', hi3, hf3, hg3⟩ := hp
        obtain ⟨hr', hl4, hk4, hne, hso, hfr, hgr⟩ := fin (some (.exit id)) S' W3 hf3 hg3
        exact ⟨_, _, hr', .inr ⟨rfl, _, ⟨.exit id, by rw [minus_plus hne]; exact hIx _ _ _ _ _ _ hi3 hso (hzp W3 _), .inr (.inl rfl), .inr (.inr rfl), hl4, hk4⟩, hfr, hgr⟩⟩
      | goto t =>
        obtain ⟨S', hi3, hf3, hg3⟩ := hp
        obtain ⟨hr', hl4, hk4, hne, hso, hfr, hgr⟩ := fin (some (.goto t)) S' W3 hf3 hg3
        exact ⟨_, _, hr', .inr ⟨rfl, _, ⟨.goto t, by rw [minus_plus hne]; exact hIx _ _ _ _ _ _ hi3 hso (hzp W3 _), .inr (.inl rfl), .inr (.inr rfl), hl4, hk4⟩, hfr, hgr⟩⟩
      | panic ch => exact hp.elim
      | outgrown => exact hp.elim
    · rintro e W2 ⟨⟨v, rfl⟩, Z, S2, hZ, hj, hfr2, hgr2⟩
      have hZL : ¬ Z (L + 1) := fun h => by have := (hZ _ h).1; omega
      have hZ' : ∀ (o : Obj) k, Z k → w.heap.size ≤ k ∧ k < (W2.putObj (L + 1) o).heap.size ∧ ¬ (S2 k ∧ k ≠ L ∧ k ≠ L + 1) := fun o k hk => ⟨by have := (hZ k hk).1; omega, by have := (hZ k hk).2.1; simpa using this, fun h => (hZ k hk).2.2 h.1⟩
      have hfw : Fr S0 w W2 := (hf1.mono (T' := S0) fun _ h => h.elim).trans hfr2 (fun k hk => by
        rcases hk with hk | hk | hk
        · exact .inl hk
        · exact .inr (by omega)
        · exact .inr (by omega))
      have hgw : ∀ o, Grows S0 (fun k => S2 k ∧ k ≠ L ∧ k ≠ L + 1) w (W2.putObj (L + 1) o) := fun o k hk => by
        refine ⟨?_, by simpa using (hgr2 k hk.1).2⟩
        rcases (hgr2 k hk.1).1 with (h1 | h1 | h1) | h1
        · exact .inl h1
        · exact absurd h1 hk.2.1
        · exact absurd h1 hk.2.2
        · exact .inr (by omega)
      rcases hj with ⟨xs, hfin, hi, hl, hl1, hr, hk⟩ | ⟨pre, c, hi, hl, hl1, hr, hk⟩
      · exact ⟨none, _, by have := run_endLoop (P := P) hr (by rw [hrec]; simp); rw [hrec] at this; exact this,
          hdone L Z _ xs _ hfin (hZ' _) (hI _ _ _ _ _ hi ((SameOn.refl _ _).putObj (by simp) _) ((SameOn.refl _ _).putObj hZL _)) (hfw.putObj (.inr (by omega)) _) (hgw _) ((World.putObj_heap_other (by omega)).trans hk) (by omega) (by simp) (fun h => by have := (hZ _ h).1; omega)⟩
      · exact ⟨some c, _, by have := run_endLoop (P := P) hr (by rw [hrec]; simp); rw [hrec] at this; exact this,
          wpIn_wide.2 (hstop L c Z _ pre _ (hZ' _) (hIx c _ _ _ _ _ hi ((SameOn.refl _ _).putObj (by simp) _) ((SameOn.refl _ _).putObj hZL _)) (hfw.putObj (.inr (by omega)) _) (hgw _) ((World.putObj_heap_other (by omega)).trans hk) (by omega) (by simp))⟩
end Go.Proofs.YtefepfiijoafbaaGreat
