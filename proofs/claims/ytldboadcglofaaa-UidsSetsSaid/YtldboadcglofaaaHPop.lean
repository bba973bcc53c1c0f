/- The heap's method Pop. Conditions: at most 2^40 heads. -/
import Derived.Test.YtldboadcglofaaaHeads
import Derived.Deep.RegionHeld3
namespace Go.Proofs.Ytldboadcglofaaa
open Go.RowKit Go.Shelf
attribute [local go_sem] Oper.semAt_some
set_option linter.unusedVariables false
set_option linter.unusedSimpArgs false

theorem HRow.cap {W : World} {base g n cap : Nat} {H : List (Int × Nat)} (h : HRow W base (.slice (some ⟨g, 0, none⟩) n cap) H) : H.length ≤ cap ∧ cap ≤ 9223372036854775807 := by
  rcases h.2 with ⟨e, _⟩ | ⟨g', cap', cur, e, hb, hg, hnc, hcm, hcs, htk⟩
  · cases e
  · simp only [Value.slice.injEq] at e
    obtain ⟨_, e2, e3⟩ := e
    unfold maxLen at hcm
    omega
theorem HRow.shorter {W : World} {base g n cap m : Nat} {H : List (Int × Nat)} (h : HRow W base (.slice (some ⟨g, 0, none⟩) n cap) H) (hm : m ≤ H.length) : HRow W base (.slice (some ⟨g, 0, none⟩) m cap) (H.take m) := by
  have hl := h.1
  rcases h.2 with ⟨e, _⟩ | ⟨g', cap', cur, e, hb, hg, hnc, hcm, hcs, htk⟩
  · cases e
  · simp only [Value.slice.injEq, Option.some.injEq, Addr.mk.injEq, and_true] at e
    obtain ⟨rfl, rfl, rfl⟩ := e
    have hlen : (H.take m).length = m := by simp; omega
    unfold HRow
    rw [hlen, ← hcells_take]
    refine ⟨by rw [List.length_take, hcells_length]; omega, .inr ⟨_, _, cur, rfl, hb, hg, by omega, hcm, hcs, ?_⟩⟩
    rw [← htk, List.take_take]
    congr 1
    omega

set_option maxRecDepth 100000 in
set_option maxHeartbeats 1000000 in
theorem hpop_any (w : World) (base hb : Nat) (v : Value) (H : List (Int × Nat)) (h : HRow w base v H) (hbx : w.heap[hb]? = some (.cells #[v] 107 (0, 0))) (h0 : 0 < H.length) (hl : H.length ≤ 1099511627776) :
    Calls Try.prog 111 #[.pointer (some ⟨hb, 0, none⟩)] w fun e w' => (∃ u, e = .returned u) ∧ ∃ v', HRow w' base v' (H.take (H.length - 1)) ∧ w'.heap[hb]? = some (.cells #[v'] 107 (0, 0)) ∧
      v'.ownBlock = v.ownBlock ∧ Fr (fun q => q = hb) w w' := by
  have k1 := cell_of_one hbx
  have f1 := free_of_one hbx
  obtain ⟨g, cap, rfl⟩ := h.form h0
  obtain ⟨m, hm⟩ : ∃ m, H.length = m + 1 := ⟨H.length - 1, by omega⟩
  obtain ⟨c1, d1⟩ := h.cells rfl m (by omega)
  have hrow : ∀ W, Fr N0 w W → HRow (W.setCell ⟨hb, 0, none⟩ (.slice (some ⟨g, 0, none⟩) m cap)) base (.slice (some ⟨g, 0, none⟩) m cap) (H.take m) := fun W hW => by
    have hgb : g ≠ hb := fun e => by obtain ⟨c, hc⟩ := ownsRow_elem h (g := g) rfl; rw [e, hbx] at hc; simp at hc
    refine (HRow.fr (h.shorter (m := m) (by omega)) hW fun _ _ => id).fr ((Fr.refl (fun q => q = hb) W).setCell (p := ⟨hb, 0, none⟩) (.inl rfl) _) fun k hk e => ?_
    simp [Value.ownBlock] at hk
    omega
  have hbW : ∀ W, Fr N0 w W → W.heap[hb]? = some (.cells #[.slice (some ⟨g, 0, none⟩) H.length cap] 107 (0, 0)) := fun W hW => (hW.at id (lt_of_block hbx)).trans hbx
  have hcap : (m : Int) ≤ (cap : Int) := by have := h.cap; omega
  rw [hm] at k1 hbW ⊢
  have HRW := Lib.hid hrow; have HBW := Lib.hid hbW
  obtain ⟨x, hx⟩ : ∃ x, H[m] = x := ⟨_, rfl⟩
  rw [hx] at c1 d1
  have i1 : (0 : Int) ≤ (m : Int) := by omega
  have i2 : (m : Int) < (m : Int) + 1 := by omega
  have i3 : IntKind.i64.wrap ((m : Int) + 1 - 1) = (m : Int) := by rw [IntWalk.i64_in _ (by omega)]; omega
  have i4 : IntKind.i64.wrap (m : Int) = (m : Int) := IntWalk.i64_in _ (by omega)
  have mk : ∀ W, Fr N0 w W → W.cell? ⟨hb, 0, none⟩ = some (.slice (some ⟨g, 0, none⟩) (m + 1) cap) ∧ W.cell? ⟨g, m * 2, none⟩ = some (.int .u64 x.1) ∧ W.cell? ⟨g, m * 2 + 1, none⟩ = some (nextFn x.2) ∧ W.frozen? ⟨hb, 0, none⟩ = false ∧ Fr N0 w W :=
    fun W hW => ⟨hW.cell id k1, hW.cell id c1, hW.cell id d1, (frozen_same (hW.at id (lt_of_cell k1))).trans f1, hW⟩
  clear h hbx hrow hbW hx hl h0
  go_enter Try.func111, Try.ntmps111
  go_wp2
  go_region_held3 (fun W => W.cell? ⟨hb, 0, none⟩ = some (.slice (some ⟨g, 0, none⟩) (m + 1) cap) ∧ W.cell? ⟨g, m * 2, none⟩ = some (.int .u64 x.1) ∧ W.cell? ⟨g, m * 2 + 1, none⟩ = some (nextFn x.2) ∧ W.frozen? ⟨hb, 0, none⟩ = false ∧ Fr N0 w W)
    (first | exact mk _ (Fr.refl _ _).drew | exact mk _ (Fr.drew (Fr.alloc (Fr.refl _ _) _)) | (go_split_ands; exact mk _ (Fr.alloc (by assumption) _))) (fail)
  have hf1 : Fr N0 w (w.alloc (.cells #[.int .u64 x.1, nextFn x.2] 112)).drew := ((Fr.refl _ _).alloc _).drew
  have hx0 : (w.alloc (.cells #[.int .u64 x.1, nextFn x.2] 112)).drew.heap[w.heap.size]? = some (.cells #[.int .u64 x.1, nextFn x.2] 112 (0, 0)) := World.alloc_heap_new w _
  go_split_ands
  generalize (w.alloc (Obj.cells #[Value.int IntKind.u64 x.1, nextFn x.2] 112)).drew = W1 at *
  have k2 := hf1.cell id k1
  have f2 := (frozen_same (hf1.at id (lt_of_cell k1))).trans f1
  have x0 : W1.cell? ⟨w.heap.size, 0, none⟩ = some (.int .u64 x.1) := by simp [World.cell?, hx0]
  have x1 : W1.cell? ⟨w.heap.size, 1, none⟩ = some (nextFn x.2) := by simp [World.cell?, hx0]
  have hbs := lt_of_cell k1
  have n1 : ¬ hb = w.heap.size := by simp only at hbs; omega
  have n2 : ¬ w.heap.size = hb := by simp only at hbs; omega
  clear mk hx0 c1 d1
  go_wp2
  go_region_with (fail)
  all_goals go_wp2
  all_goals go_ret
  all_goals exact ⟨⟨_, rfl⟩, _, World.ownsRow.drew (HRW.out W1 hf1), one_setCell (HBW.out W1 hf1), rfl, ((Fr.mono (T' := fun q => q = hb) hf1 fun _ h => h.elim).setCell (p := ⟨hb, 0, none⟩) (.inl rfl) _).drew⟩

end Go.Proofs.Ytldboadcglofaaa
