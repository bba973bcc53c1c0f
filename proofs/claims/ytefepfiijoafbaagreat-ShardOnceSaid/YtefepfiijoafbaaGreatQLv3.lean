/- lives, its last region: the chain of comparisons. -/
import Derived.Test.YtefepfiijoafbaaGreatQLv2
namespace Go.Proofs.YtefepfiijoafbaaGreat
open Go.RowKit Go.Shelf Go.Maps
attribute [local go_sem] Oper.semAt_some
attribute [local go_sem ↓] Go.wp_at_zero Go.wp_at_succ
attribute [local irreducible] wpQuiet
set_option linter.unusedVariables false
set_option linter.unusedSimpArgs false

abbrev CellV (W0 : World) (g o : Nat) (W : World) : Prop := W.cell? ⟨g, o, none⟩ = some (.int .u8 3) ∧ W.cell? ⟨g, o + 1, none⟩ = some (.bool false) ∧ W.cell? ⟨g, o + 2, none⟩ = some (.int .i64 0) ∧ W.cell? ⟨g, o + 3, none⟩ = some (.string ⟨#[97]⟩) ∧ W.cell? ⟨g, o + 4, none⟩ = some (.int .u64 0) ∧ Fr N0 W0 W
theorem cellV_keep {W0 : World} {g o : Nat} {W W' : World} (hf : Fr N0 W W') (h : CellV W0 g o W) : CellV W0 g o W' :=
  ⟨hf.cell id h.1, hf.cell id h.2.1, hf.cell id h.2.2.1, hf.cell id h.2.2.2.1, hf.cell id h.2.2.2.2.1, h.2.2.2.2.2.then0 hf⟩

set_option maxRecDepth 100000 in
set_option maxHeartbeats 4000000 in
theorem ll15 {K : Act → World → Prop} {Q : Exit → Act → World → Prop} (W : World) (f : Nat → Value) (g o c : Nat) (hc : 1 ≤ c)
    (h4 : f 4 = .int .i64 0) (h5 : f 5 = .int .i64 202) (h7 : f 7 = .int .i64 0) (h8 : f 8 = .int .i64 7) (h9 : f 9 = .int .i64 0) (h10 : f 10 = .int .i64 0) (h11 : f 11 = .slice (some ⟨g, o, none⟩) 1 c) (h12 : f 12 = .int .i64 0) (h13 : f 13 = .slice none 0 0) (h14 : f 14 = .int .i64 0) (h15 : f 15 = .int .i64 210) (h16 : f 16 = .int .i64 211)
    (hv : ∀ i, i < 5 → W.cell? ⟨g, o + i, none⟩ = (Val.enc ⟨3, false, 0, bA, 0⟩)[i]?)
    (hK : ∀ f' W', f' 0 = .bool true → Fr N0 W W' → K (frA 115 f') W') :
    Code.wp Tryz.prog (lvFst (lvSnd (llB 14))) (Exit.then K Q) (frA 115 f) W := by
  have hV : CellV W g o W := ⟨hv 0 (by decide), hv 1 (by decide), hv 2 (by decide), hv 3 (by decide), hv 4 (by decide), Fr.refl _ _⟩
  have hV := cellV_keep (Fr.refl N0 W).drew hV
  have HK := Lib.hid hK; have HV := Lib.hid hV
  have HT := Lib.hid fun W => lsText_any W ⟨#[97]⟩
  clear hK hv hV
  show Code.wp _ _ _ { tmps := #[f 0, f 1, f 2, f 3, f 4, f 5, f 6, f 7, f 8, f 9, f 10, f 11, f 12, f 13, f 14, f 15, f 16, f 17, f 18, f 19, f 20, f 21, f 22, f 23, f 24, f 25, f 26, f 27, f 28, f 29, f 30, f 31, f 32, f 33, f 34, f 35, f 36, f 37, f 38, f 39, f 40, f 41, f 42, f 43, f 44, f 45, f 46, f 47, f 48, f 49, f 50, f 51, f 52, f 53, f 54, f 55, f 56, f 57, f 58, f 59, f 60, f 61, f 62, f 63, f 64, f 65, f 66, f 67, f 68, f 69, f 70, f 71, f 72, f 73, f 74, f 75, f 76, f 77, f 78, f 79, f 80, f 81, f 82, f 83, f 84, f 85, f 86, f 87, f 88, f 89, f 90, f 91, f 92, f 93, f 94, f 95, f 96, f 97, f 98, f 99, f 100, f 101, f 102, f 103, f 104, f 105, f 106, f 107, f 108, f 109, f 110, f 111, f 112, f 113, f 114], defers := [] } _
  rw [h4, h5, h7, h8, h9, h10, h11, h12, h13, h14, h15, h16]
  clear h4 h5 h7 h8 h9 h10 h11 h12 h13 h14 h15 h16
  conv => arg 2; whnf
  go_region_held3 (CellV W g o) (first
    | (with_reducible assumption)
    | (with_reducible exact HV.out)
    | (with_reducible exact hbb1)
    | fail) (first
    | (go_simp; go_at_call 48; (with_reducible refine (HT.out _).mono ?_); rintro e w2 ⟨rfl, hf1⟩; have hbb1 := cellV_keep hf1 HV.out)
    | fail)
  refine cut_use (n := 115) (K := K) _ rfl ?_
  rename_i hHeld
  exact HK.out _ _ rfl hHeld.2.2.2.2.2
end Go.Proofs.YtefepfiijoafbaaGreat
