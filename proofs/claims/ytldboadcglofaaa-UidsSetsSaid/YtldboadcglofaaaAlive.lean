/- The law's own examples: alive answers true. No condition. -/
import Derived.Test.YtldboadcglofaaaBytes
import Derived.Test.YtldboadcglofaaaSort
import Derived.Test.YtldboadcglofaaaRefOf
namespace Go.Proofs.Ytldboadcglofaaa
open Go.RowKit Go.Shelf
attribute [local go_sem] Oper.semAt_some
set_option linter.unusedVariables false
set_option linter.unusedSimpArgs false

theorem norm_ex : norm [3, 1, 3, 0, 300] = [1, 3, 300] := (norm_unique (by decide) (fun x => by simp; omega)).symm
theorem bytes_ex : bytesOf [1, 3, 300] = [1, 3, 1, 1, 1, 2, 2, 1, 41] := by
  have h1 : nb 1 = 1 := by rw [nb_step (by decide)]; simp [nb_zero]
  have h2 : nb 2 = 1 := by rw [nb_step (by decide)]; simp [nb_zero]
  have h3 : nb 3 = 1 := by rw [nb_step (by decide)]; simp [nb_zero]
  have h4 : nb 297 = 2 := by rw [nb_step (by decide), nb_step (by decide)]; simp [nb_zero]
  simp [bytesOf, preOf, List.range_succ, stepOf, num, be, h1, h2, h3, h4]
theorem read_ex : rdList ⟨#[1, 2, 1, 1, 0]⟩ = none := by rfl

set_option maxHeartbeats 1000000 in
set_option maxRecDepth 100000 in
theorem alive_any (w : World) : Calls Try.prog 8 #[] w fun e w' => e = .returned (.bool true) ∧ Fr N0 w w' := by
  have hI : Ints .u64 (w.alloc (.cells #[.int .u64 3, .int .u64 1, .int .u64 3, .int .u64 0, .int .u64 300] 23)) w.heap.size (.slice (some ⟨w.heap.size, 0, none⟩) 5 5) [3, 1, 3, 0, 300] := by
    refine ⟨some ⟨w.heap.size, 0, none⟩, 0, 5, rfl, by decide, by decide, fun _ => rfl, by simp, fun i hi => ?_, by decide⟩
    rw [Nat.zero_add]
    have hc : (w.alloc (.cells #[.int .u64 3, .int .u64 1, .int .u64 3, .int .u64 0, .int .u64 300] 23)).heap[w.heap.size]? = some (.cells #[.int .u64 3, .int .u64 1, .int .u64 3, .int .u64 0, .int .u64 300] 23 (0, 0)) := World.alloc_heap_new _ _
    simp only [World.cell?, hc]
    match i, hi with
    | 0, _ => rfl
    | 1, _ => rfl
    | 2, _ => rfl
    | 3, _ => rfl
    | 4, _ => rfl
    | n + 5, h => exact absurd h (by simp only [List.length_cons, List.length_nil]; omega)
  have h1 := ofTop_any sort_any _ _ _ _ hI (by decide)
  rw [norm_ex] at h1
  have h2 := fun W => read_any ⟨#[1, 2, 1, 1, 0]⟩ (by decide) W
  rw [read_ex] at h2
  have h3 : ∀ W B, IsL W W.heap.size (some ⟨B, 0, none⟩) [1, 3, 300] → Calls Try.prog 14 #[.pointer (some ⟨B, 0, none⟩)] W fun e w' => e = .returned (.int .i64 3) ∧ W = w' := fun W B h => len_any W _ _ _ h
  have h4 : ∀ W B, IsL W W.heap.size (some ⟨B, 0, none⟩) [1, 3, 300] → Calls Try.prog 16 #[.pointer (some ⟨B, 0, none⟩), .int .u64 3] W fun e w' => e = .returned (.bool true) ∧ Fr N0 W w' := fun W B h => has_any W _ _ _ 3 h (Nat.le_refl _) (by decide)
  have h4' : ∀ W B, IsL W W.heap.size (some ⟨B, 0, none⟩) [1, 3, 300] → Calls Try.prog 16 #[.pointer (some ⟨B, 0, none⟩), .int .u64 2] W fun e w' => e = .returned (.bool false) ∧ Fr N0 W w' := fun W B h => has_any W _ _ _ 2 h (Nat.le_refl _) (by decide)
  have h5 : ∀ W B, IsL W W.heap.size (some ⟨B, 0, none⟩) [1, 3, 300] → Calls Try.prog 23 #[.pointer (some ⟨B, 0, none⟩)] W fun e w' => e = .returned (.string ⟨#[1, 3, 1, 1, 1, 2, 2, 1, 41]⟩) ∧ Fr N0 W w' := fun W B h => by
    have := bytes_any W _ _ _ h (Nat.le_refl _) (by decide)
    rw [bytes_ex] at this
    exact this
  have hbl : ∀ {A C : World} {B : Nat} {l : List Int}, IsL A A.heap.size (some ⟨B, 0, none⟩) l → Fr N0 A C → IsL C C.heap.size (some ⟨B, 0, none⟩) l := fun h hf => h.below hf.below0 hf.size
  clear hI
  go_enter Try.func8, Try.ntmps8
  go_wp2_with (first
    | (go_at_call 9; refine h1.mono ?_; rintro e w1 ⟨B, rfl, hl1, hf1⟩)
    | (go_at_call 21; refine (h2 _).mono ?_; rintro e w2 ⟨hp, hf2⟩; obtain rfl := (show e = _ from hp); have hl2 := hbl hl1 hf2)
    | (go_at_call 14; refine (h3 _ _ hl2).mono ?_; rintro e w3 ⟨rfl, rfl⟩)
    | (go_at_call_has 16 (Value.int .u64 3); refine (h4 _ _ hl2).mono ?_; rintro e w4 ⟨rfl, hf4⟩; have hl4 := hbl hl2 hf4)
    | (go_at_call_has 16 (Value.int .u64 2); refine (h4' _ _ hl4).mono ?_; rintro e w5 ⟨rfl, hf5⟩; have hl5 := hbl hl4 hf5)
    | (go_at_call 23; refine (h5 _ _ hl5).mono ?_; rintro e w6 ⟨rfl, hf6⟩))
  go_ret
  exact ⟨rfl, ((((((Fr.refl _ _).alloc _).then0 hf1).then0 hf2).then0 hf4).then0 hf5).then0 hf6⟩

end Go.Proofs.Ytldboadcglofaaa
