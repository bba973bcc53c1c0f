/- uids.Of: any numbers' list.
   Condition: at most 2^44 numbers. -/
import Derived.Test.YtldboadcglofaaaCompact
namespace Go.Proofs.Ytldboadcglofaaa
open Go.RowKit Go.Shelf
attribute [local go_sem] Oper.semAt_some
set_option linter.unusedVariables false
set_option linter.unusedSimpArgs false

/-- What slices.Sort does to an owned row. -/
def SortSaid : Prop := ∀ (w : World) (base : Nat) (v : Value) (xs : List Int), Row w base v xs → (∀ x ∈ xs, (Lit.int .u64 x).wf = true) → xs.length ≤ 17592186044416 →
  Calls Try.prog 35 #[v] w fun e w' => e = .returned (.tuple #[]) ∧ Row w' base v (xs.mergeSort fun x y => decide (x ≤ y)) ∧ Fr (fun k => v.ownBlock = some k) w w'

/-- The numbers of xs but 0, rising, each once. -/
def norm (xs : List Int) : List Int := comp ((xs.filter fun x => !(x == 0)).mergeSort fun x y => decide (x ≤ y))

theorem norm_sorted (xs : List Int) : (norm xs).Pairwise (· < ·) := by
  refine comp_sorted _ ?_
  have := List.pairwise_mergeSort (le := fun (x y : Int) => decide (x ≤ y)) (fun a b c h1 h2 => by simp at *; omega) (fun a b => by simp; omega) (xs.filter fun x => !(x == 0))
  exact this.imp fun h => by simpa using h
theorem norm_mem (xs : List Int) (x : Int) : x ∈ norm xs ↔ x ∈ xs ∧ x ≠ 0 := by
  unfold norm
  rw [comp_mem, List.mem_mergeSort, List.mem_filter]
  simp
theorem comp_length (l : List Int) : (comp l).length ≤ l.length := by
  generalize hn : l.length = n
  induction n generalizing l with
  | zero => rw [List.eq_nil_of_length_eq_zero hn]; simp [comp]
  | succ n ih =>
    rcases snoc_cases l with rfl | ⟨a, y, rfl⟩
    · simp at hn
    · have := ih a (by simpa using hn)
      rw [comp_snoc, compStep]
      split <;> simp <;> omega
theorem norm_length (xs : List Int) : (norm xs).length ≤ xs.length := by
  unfold norm
  refine Nat.le_trans (comp_length _) ?_
  rw [List.length_mergeSort]
  exact List.length_filter_le _ _

set_option maxHeartbeats 1000000 in
theorem of1_any (x : Int) (w : World) : Calls Try.prog 34 #[.int .u64 x] w fun e w' => e = .returned (.bool (x == 0)) ∧ w = w' := by
  go_enter Try.func34, Try.ntmps34
  go_wp2
  go_ret
  exact ⟨rfl, rfl⟩

set_option maxHeartbeats 1000000 in
theorem values_any (a : Option Addr) (n c : Nat) (w : World) : Calls Try.prog 37 #[.slice a n c] w fun e w' => e = .returned (.func (.func 58) #[] #[.pointer (some ⟨w.heap.size, 0, none⟩)]) ∧ w.alloc (.cells #[.slice a n c] 22) = w' := by
  go_enter Try.func37, Try.ntmps37
  go_wp2
  go_ret
  exact ⟨rfl, rfl⟩

theorem enters_Of1 (args : Array Value) (w : World) : (callFunc 34 args).run Try.prog w = .ok (.enter 34 args) w := enters_of Try.func34 (by kernel_rfl) rfl args w

/-- slices.Values of a slice that reads as xs, where it lies. -/
theorem values_seq (w : World) (b : Nat) (v : Value) (xs : List Int) (h : Ints .u64 w b v xs) :
    SeqOf Try.prog 58 #[.pointer (some ⟨w.heap.size, 0, none⟩)] enc1 (fun k => k = w.heap.size ∨ (0 < xs.length ∧ k = b)) xs (w.alloc (.cells #[v] 22)) :=
  values1 _ w.heap.size b v xs (World.alloc_heap_new _ _) (h.fr0 ((Fr.refl _ _).alloc _))

theorem row_form {w : World} {base : Nat} {v : Value} {xs : List Int} (h : Row w base v xs) : ∃ a cap, v = .slice a xs.length cap := by
  rcases h.2 with ⟨hv, h0⟩ | ⟨g, cap, _, hv, _⟩
  · exact ⟨none, 0, by rw [hv, h0]⟩
  · exact ⟨_, cap, hv⟩

set_option maxRecDepth 100000 in
set_option maxHeartbeats 1000000 in
theorem ofTop_anyF (hsort : SortSaid) (w : World) (b : Nat) (v : Value) (xs : List Int) (h : Ints .u64 w b v xs) (hl : xs.length ≤ 17592186044416) :
    Calls Try.prog 9 #[v] w fun e w' => ∃ B, e = .returned (.pointer (some ⟨B, 0, none⟩)) ∧ ListOn (fun k => w.heap.size ≤ k) w' (some ⟨B, 0, none⟩) (norm xs) ∧ Fr N0 w w' := by
  have hwf := h.wf
  have hclone := clone_any w b v xs h hl
  have hfl : (xs.filter fun x => !(x == 0)).length ≤ xs.length := List.length_filter_le _ _
  have hwf2 : ∀ x ∈ xs.filter (fun x => !(x == 0)), (Lit.int .u64 x).wf = true := fun x hx => hwf x (List.mem_filter.1 hx).1
  have hwf3 : ∀ x ∈ norm xs, 0 < x ∧ x < 18446744073709551616 := fun x hx => by
    obtain ⟨h1, h2⟩ := (norm_mem xs x).1 hx
    have := bounds_u64 (hwf x h1)
    omega
  clear h
  go_enter Try.func9, Try.ntmps9
  go_wp2_with fail
  refine hclone.mono ?_
  rintro e w1 ⟨v1, rfl, hr1, hf1⟩
  have hp : Pred 34 #[] (fun _ => True) xs (fun x => x == 0) := fun x _ W _ => by simpa using of1_any x W
  have hT : ∀ {A B C : World} {v : Value}, Fr N0 A B → (∀ g, v.ownBlock = some g → A.heap.size ≤ g) → Fr (fun k => v.ownBlock = some k) B C → Fr N0 A C := fun h1 h2 h3 => h1.trans h3 fun k hk => .inr (h2 k hk)
  have hg1 : ∀ g, v1.ownBlock = some g → w.heap.size ≤ g := fun g hg => (hr1.lt g hg).1
  go_wp2_with fail
  refine (delf_any w1 w.heap.size v1 xs hr1 hwf hl 34 #[] (fun _ => True) _ hp (fun _ _ => trivial) enters_Of1).mono ?_
  rintro e w2 ⟨v2, rfl, hr2, _, hf2'⟩
  have hf2 := hT hf1 hg1 hf2'
  have hg2 : ∀ g, v2.ownBlock = some g → w.heap.size ≤ g := fun g hg => (hr2.lt g hg).1
  clear hr1 hf1 hf2' hg1
  go_wp2_with fail
  refine (hsort w2 w.heap.size v2 _ hr2 hwf2 (by omega)).mono ?_
  rintro e w3 ⟨rfl, hr3, hf3'⟩
  have hf3 := hT hf2 hg2 hf3'
  clear hr2 hf2 hf3'
  go_wp2_with fail
  refine (compact_any w3 w.heap.size v2 _ hr3 (by rw [List.length_mergeSort]; omega)).mono ?_
  rintro e w4 ⟨v4, rfl, hr4, hf4'⟩
  have hf4 := hT hf3 hg2 hf4'
  clear hr3 hf3 hf4' hg2
  have hr4' : Row w4 w.heap.size v4 (norm xs) := hr4
  clear hr4
  obtain ⟨b4, hI4⟩ := row_ints hr4' (fun x hx => hwf x ((norm_mem xs x).1 hx).1)
  have hseq := values_seq w4 b4 v4 _ hI4
  have hRb : ∀ k, (k = w4.heap.size ∨ (0 < (norm xs).length ∧ k = b4)) → k < (w4.alloc (.cells #[v4] 22)).heap.size := fun k hk => by
    rcases hk with hk | ⟨h0, hk⟩
    · simp; omega
    · have := hI4.lt h0; simp; omega
  obtain ⟨a4, c4, rfl⟩ := row_form hr4'
  have hof := of_anyF _ _ _ _ _ _ hseq enters_Val1 (SameOn.refl _ _) hRb (Nat.le_trans (norm_length xs) hl) (norm_sorted xs) hwf3
  clear hseq hRb hI4 hr4'
  go_wp2_with fail
  refine (values_any _ _ _ _).mono ?_
  rintro e w5 ⟨rfl, rfl⟩
  go_wp2_with fail
  refine hof.mono ?_
  rintro e w6 ⟨rfl, hl6, hf6⟩
  rw [World.size_alloc] at hl6
  go_wp2
  go_ret
  have hz4 := hf4.size
  exact ⟨_, rfl, hl6.then_ (SameOn.refl _ _) fun k hk _ => by
    have hk' : w4.heap.size + 1 ≤ k := hk
    show w.heap.size ≤ k
    omega, (hf4.alloc _).then0 hf6⟩

theorem ofTop_any (hsort : SortSaid) (w : World) (b : Nat) (v : Value) (xs : List Int) (h : Ints .u64 w b v xs) (hl : xs.length ≤ 17592186044416) :
    Calls Try.prog 9 #[v] w fun e w' => ∃ B, e = .returned (.pointer (some ⟨B, 0, none⟩)) ∧ IsL w' w'.heap.size (some ⟨B, 0, none⟩) (norm xs) ∧ Fr N0 w w' :=
  (ofTop_anyF hsort w b v xs h hl).mono fun e w' ⟨B, h1, h2, h3⟩ => ⟨B, h1, h2.isL, h3⟩

end Go.Proofs.Ytldboadcglofaaa
