/- The closure that hands out the rest of a list. -/
import Derived.Test.YtldboadcglofaaaHeads
import Derived.Deep.RegionHeld3
namespace Go.Proofs.Ytldboadcglofaaa
open Go.RowKit Go.Shelf
attribute [local go_sem] Oper.semAt_some
set_option linter.unusedVariables false
set_option linter.unusedSimpArgs false

set_option maxRecDepth 100000 in
set_option maxHeartbeats 1000000 in
theorem next_nil (w : World) (b bl : Nat) (va : Value) (hbx : w.heap[b]? = some (.cells #[va] 22 (0, 0))) (hi : Ints .u64 w bl va []) :
    Calls Try.prog 78 #[.pointer (some ⟨b, 0, none⟩)] w fun e w' => e = .returned (.tuple #[.int .u64 0, .bool false]) ∧ Fr N0 w w' := by
  obtain ⟨a, off, cap, rfl, h1, h2, h3, h4, h5, h6⟩ := hi
  have k1 := cell_of_one hbx
  clear hbx h5 h6 h3
  go_enter Try.func78, Try.ntmps78
  go_wp2
  go_ret2
  exact ⟨rfl, Fr.refl _ _⟩

theorem Ints.tail {W : World} {bl : Nat} {a : Option Addr} {off cap : Nat} {x : Int} {r : List Int} (hc : r.length + 1 ≤ cap) (hm : cap ≤ 9223372036854775807)
    (h : ∀ i (h : i < (x :: r).length), W.cell? ⟨bl, off + i, none⟩ = some (.int .u64 (x :: r)[i])) (hw : ∀ y ∈ r, (Lit.int .u64 y).wf = true) : Ints .u64 W bl (.slice (some ⟨bl, off + 1, none⟩) r.length (cap - 1)) r := by
  refine ⟨_, off + 1, cap - 1, rfl, by omega, by omega, fun _ => rfl, by simp, fun i hi => ?_, hw⟩
  have := h (i + 1) (by simp; omega)
  rw [show off + 1 + i = off + (i + 1) by omega, this]
  rfl

set_option maxRecDepth 100000 in
set_option maxHeartbeats 1000000 in
theorem next_cons (w : World) (b bl : Nat) (va : Value) (x : Int) (r : List Int) (hbx : w.heap[b]? = some (.cells #[va] 22 (0, 0))) (hi : Ints .u64 w bl va (x :: r)) (hbb : bl ≠ b) (hl : r.length ≤ 17592186044416) :
    Calls Try.prog 78 #[.pointer (some ⟨b, 0, none⟩)] w fun e w' => e = .returned (.tuple #[.int .u64 x, .bool true]) ∧ ∃ va', w'.heap[b]? = some (.cells #[va'] 22 (0, 0)) ∧ Ints .u64 w' bl va' r ∧ Fr (fun q => q = b) w w' := by
  obtain ⟨a, off, cap, rfl, h1, h2, h3, h4, h5, h6⟩ := hi
  obtain rfl := h3 (by simp)
  have k1 := cell_of_one hbx
  have f1 := free_of_one hbx
  have c1 := h5 0 (by simp)
  simp only [List.getElem_cons_zero, Nat.add_zero] at c1
  have hres : ∀ W, Fr N0 w W → (W.setCell ⟨b, 0, none⟩ (.slice (some ⟨bl, off + 1, none⟩) r.length (cap - 1))).heap[b]? = some (.cells #[.slice (some ⟨bl, off + 1, none⟩) r.length (cap - 1)] 22 (0, 0)) ∧
      Ints .u64 (W.setCell ⟨b, 0, none⟩ (.slice (some ⟨bl, off + 1, none⟩) r.length (cap - 1))) bl (.slice (some ⟨bl, off + 1, none⟩) r.length (cap - 1)) r ∧ Fr (fun q => q = b) w (W.setCell ⟨b, 0, none⟩ (.slice (some ⟨bl, off + 1, none⟩) r.length (cap - 1))) := fun W hW => by
    have hf : Fr (fun q => q = b) w (W.setCell ⟨b, 0, none⟩ (.slice (some ⟨bl, off + 1, none⟩) r.length (cap - 1))) := (Fr.mono (T' := fun q => q = b) hW fun _ h => h.elim).setCell (p := ⟨b, 0, none⟩) (.inl rfl) _
    refine ⟨one_setCell ((hW.at id (lt_of_block hbx)).trans hbx), ?_, hf⟩
    exact Ints.fr (Ints.tail (a := none) (by simpa using h1) h2 h5 fun y hy => h6 y (List.mem_cons_of_mem _ hy)) hf hbb
  have hres1 : cap = 1 → r = [] ∧ ∀ W, Fr N0 w W → (W.setCell ⟨b, 0, none⟩ (.slice (some ⟨bl, off, none⟩) 0 0)).heap[b]? = some (.cells #[.slice (some ⟨bl, off, none⟩) 0 0] 22 (0, 0)) ∧ Fr (fun q => q = b) w (W.setCell ⟨b, 0, none⟩ (.slice (some ⟨bl, off, none⟩) 0 0)) := fun hc => by
    refine ⟨List.eq_nil_of_length_eq_zero (by simp at h1; omega), fun W hW => ⟨one_setCell ((hW.at id (lt_of_block hbx)).trans hbx), (Fr.mono (T' := fun q => q = b) hW fun _ h => h.elim).setCell (p := ⟨b, 0, none⟩) (.inl rfl) _⟩⟩
  have HR := Lib.hid hres; have HR1 := Lib.hid hres1
  obtain ⟨n, hn⟩ : ∃ n, r.length = n := ⟨_, rfl⟩
  simp only [List.length_cons, hn] at k1 h1 ⊢
  have i1 : (1 : Int) ≤ (n : Int) + 1 := by omega
  have i2 : (0 : Int) < (n : Int) + 1 := by omega
  have i3 : (n : Int) + 1 ≤ (cap : Int) := by omega
  rw [hn] at hl
  clear hbx h5 h6 hres hres1
  by_cases hcap : cap = 1
  · obtain rfl : n = 0 := by omega
    subst hcap
    go_enter Try.func78, Try.ntmps78
    go_wp2
    go_region_with (fail)
    all_goals go_wp2
    all_goals go_ret2
    all_goals
      obtain ⟨hr0, hr1⟩ := HR1.out (by simp)
      obtain ⟨h7, h9⟩ := hr1 w (Fr.refl _ _)
      subst hr0
      exact ⟨rfl, _, h7, ⟨_, 0, 0, rfl, Nat.le_refl _, by omega, by simp, by simp, by simp, by simp⟩, h9.drew⟩
  · go_enter Try.func78, Try.ntmps78
    go_wp2
    go_region_with (fail)
    all_goals go_wp2
    all_goals go_ret2
    all_goals
      obtain ⟨h7, h8, h9⟩ := HR.out w (Fr.refl _ _)
      rw [hn] at h7 h8 h9
      exact ⟨rfl, _, h7, h8, h9.drew⟩

end Go.Proofs.Ytldboadcglofaaa
