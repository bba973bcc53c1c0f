/-
  UidsSets, proved: the walk of both sides is usets_any (USets). Conditions: none but the row's own.
-/
import Derived.Test.YtldboadcglofaaaRows
import Derived.WalkKit
import Derived.ProofKit
import Derived.OpenShut
import Derived.ShutString
import Derived.ChangeOld
import Derived.Below
import Derived.Deep.Matrix
import Derived.Test.YtldboadcglofaaaUSets
namespace Go.Proofs.Ytldboadcglofaaa.uidsSets
open Go.ChangeShapes Go.WideShapes Go.ChangeAt Go.RowKit
open Go.ChangeMaps (open_string shut_string)
set_option linter.unusedVariables false

theorem own : ownKnob Try.prog.godebug = none := by kernel_rfl
theorem laidOut : laidOutB Try.prog = true := by kernel_rfl

theorem walk (b : Nat) (v : Value) (Xs : List (List Int)) (w : World) (h : RowsAt w b v Xs) :
    Calls Try.prog 5 #[v] w fun e w' => e = .returned (.bool true) ∧ Below w.heap.size w w' :=
  (usets_any w b v Xs h).mono fun e w' h => ⟨h.1, h.2.below0⟩

theorem rows_open {H : Type} {enc : TypeId × Value → H} {W : World} {base fuel : Nat} {held : Bool} {cs : List Value} {x : DataW H × List MemPlace} (h : DataW.trod enc Try.prog W base (fun _ => true) held fuel 51 cs = some x) :
    ∃ b v Xs, cs = [v] ∧ RowsAt W b v Xs := by
  rcases Go.Deep.open_int_rows Try.underlying51 Try.underlying22 Try.underlying23 (by kernel_rfl) (by kernel_rfl) h with ⟨rfl, _⟩ | ⟨a, len, cap, A, L, C, Z, rfl, _, hl, hm, _, hr⟩
  · exact ⟨0, _, [], rfl, none, 0, 0, rfl, by simp, by omega, by simp, fun i hi => by simp at hi⟩
  · have hX : ∀ i (h : i < ((List.range len).map fun r => (Z r).take (L r)).length), ((List.range len).map fun r => (Z r).take (L r))[i] = (Z i).take (L i) ∧ ((Z i).take (L i)).length = L i := fun i h => by
      have hi : i < len := by simpa using h
      obtain ⟨_, h2, _, h4, _⟩ := hr i (by omega)
      exact ⟨by simp, by simp; omega⟩
    have hm' : cap ≤ 9223372036854775807 := by unfold maxLen at hm; omega
    obtain ⟨b, off, spot⟩ := a
    by_cases h0 : 0 < len
    · have hspot : spot = none := by simpa [Addr.add] using World.cell?_spot (hr 0 (by omega)).1
      subst hspot
      refine ⟨b, _, (List.range len).map fun r => (Z r).take (L r), rfl, some ⟨b, off, none⟩, off, cap, by simp, by simpa using hl, hm', fun _ => rfl, fun i hi => ?_⟩
      have hil : i < len := by simpa using hi
      obtain ⟨e1, e2⟩ := hX i hi
      obtain ⟨h1, h2, h3, h4, h5, h6, h7⟩ := hr i (by omega)
      rw [e1, e2]
      refine ⟨A i, C i, ?_⟩
      have hrow := ints_of_row (k := .u64) (w := W) (a := A i) (len := L i) (cap := C i) (zs := Z i) (by
        cases hA : A i with
        | none => exact .inl ⟨rfl, by have := h6 hA; omega, h6 hA, List.eq_nil_of_length_eq_zero (by have := h6 hA; omega)⟩
        | some a' => exact .inr ⟨a', rfl, h2, h3, h4, fun c hc => (h7 a' hA).2 c (by omega), h5⟩)
      obtain ⟨bi, hI, _⟩ := hrow
      exact ⟨bi, by rw [← Go.WideShapes.add_plain]; exact h1, hI⟩
    · obtain rfl : len = 0 := by omega
      exact ⟨b, _, [], rfl, some ⟨b, off, spot⟩, off, cap, by simp, by simp, hm', fun h => by simp at h, fun i hi => by simp at hi⟩

/-! ### THE ROW's STEP: WRITTEN OUT: LEAVE IT -/
set_option maxRecDepth 100000 in
theorem lifted (os : Os) (started : os.Started) (H : Type) (enc : TypeId × Value → H) :
    ReturnsInHanded {} Try.checked os 5 .any (Rows.uidsSetsSpec.pre6 enc Try.prog Try.f5 Rows.uidsSetsRow.domain false) (Rows.uidsSetsSpec.post enc Try.prog Try.f5 false true false false) := by
  refine returnsInHanded_of_change (C := Try.checked) own started (by kernel_rfl) Try.func5
    (ChangeSpec.witness6 (enc := enc) (C := Try.checked) false ⟨#[], #[.slice none 0 0], []⟩ 8 (by kernel_rfl) (by kernel_rfl) (by kernel_rfl) (by kernel_rfl)) ?_
  intro W base args ds gs before hval0 hW hcnd _
  have hval : ∀ (j : Nat) t v, Try.f5.params[j]? = some t → args[j]? = some v → Value.okWide Try.prog W .any base t v := hval0
  have hW' := hW
  obtain ⟨p, q, hA0, hV, rfl, hfz, hnd⟩ := hW
  have hA : DataW.TrodAll enc Try.prog W 0 (fun _ => true) true Try.f5.params.toList args.toList ds p := hA0
  rw [Try.params5] at hA hval
  obtain ⟨v0, vs0, d0, ds0, p0, q0, hargs, rfl, rfl, h0, r0⟩ := trodAll_cons hA
  obtain ⟨rfl, rfl, rfl⟩ := trodAll_nil r0
  obtain rfl : args = #[v0] := by cases args; simp_all
  obtain ⟨rfl, rfl⟩ := trodVars_none hV
  obtain ⟨a0, len0, cap0, rfl⟩ := okWide_slice Try.underlying51 (hval 0 51 v0 rfl rfl)
  have k0 := h0
  have lt0 : ∀ x ∈ p0, x.block < W.heap.size := by obtain ⟨m, hm⟩ := k0; exact DataW.trod_lt m _ _ _ hm
  obtain ⟨b, Xs, w0⟩ : ∃ b Xs, RowsAt W b (.slice a0 len0 cap0) Xs := by
    obtain ⟨fuel, hf⟩ := h0
    obtain ⟨b, v, Xs, hcs, hR⟩ := rows_open hf
    simp [Value.cells] at hcs
    subst hcs
    exact ⟨b, Xs, hR⟩
  clear hA0 hval0
  refine (walk b _ Xs W w0).mono fun e W' ⟨he, bel⟩ => ?_
  subst he
  exact ⟨_, rfl, _, _, _, [], _, [], hW', trodAll_mk1 (shut_bool Try.underlying4 _), (trodAll_cons_mk (Below.trod laidOut (by kernel_rfl) (of_decide_eq_true (by kernel_rfl)) k0 bel lt0) trodAll_mk0), rfl, bel.frame _, fun h => by cases h⟩

theorem over : Rows.uidsSetsRow.holds Try.pinned (OpenSpec.ofChange Rows.uidsSetsSpec) :=
  OpenClaim.holds_of_wide 5 Try.f5 rfl rfl rfl rfl rfl rfl rfl ⟨rfl, rfl, rfl, rfl, rfl⟩ rfl rfl rfl rfl rfl (by kernel_rfl) Try.func5 (by kernel_rfl)
    (of_decide_eq_true (by kernel_rfl)) (by unfold Func.isWrapper; first | (rw [if_pos (by decide +kernel)]; kernel_rfl) | (rw [if_neg (by decide +kernel)]; exact ⟨rfl, rfl⟩))
    (fun os started H enc _ => lifted os started H enc)

/-- ████ THE STATEMENT ████ -/
theorem proved : Rows.UidsSetsSaid := over
#print axioms proved
end Go.Proofs.Ytldboadcglofaaa.uidsSets
