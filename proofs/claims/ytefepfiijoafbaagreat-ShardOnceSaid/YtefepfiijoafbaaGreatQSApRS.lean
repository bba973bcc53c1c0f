/- Apply: the call of what does a command. -/
import Derived.Deep.RegionHeld3
import Derived.Test.YtefepfiijoafbaaGreatQSApRH
namespace Go.Proofs.YtefepfiijoafbaaGreat
open Go.RowKit Go.Shelf Go.Maps
attribute [local go_sem] Oper.semAt_some
attribute [local go_sem ↓] Go.wp_at_zero Go.wp_at_succ
attribute [local irreducible] wpQuiet
set_option linter.unusedVariables false
set_option linter.unusedSimpArgs false

set_option maxRecDepth 100000 in
set_option maxHeartbeats 4000000 in
theorem apR6_stage {K : Act → World → Prop} {Q : Exit → Act → World → Prop} (W : World) (f : Nat → Value) (T : Nat → Prop) (p B : Nat) (E : Int) (PP : World → Prop) (st cm : Int) (wa : Option Addr) (nw wc : Nat) (sp : ByteArray) (sy : Int) (sl se sm so sr sc : Bool) (pr : ByteArray) (at_ : Int) (ta : Option Addr) (nt tc : Nat) (pa : Option Addr) (np pc : Nat)
    (h0 : f 0 = .pointer (some ⟨p, 0, none⟩)) (h3 : f 3 = .pointer (some ⟨B, 0, none⟩)) (hB : BoxB B (OpCells 2 st cm wa nw wc sp sy sl se sm so sr sc pr at_ ta nt tc pa np pc) W)
    (hC : ∀ W', Fr N0 W W' → Calls Tryz.prog 118 #[.pointer (some ⟨p, 0, none⟩), .agg (OpCells 2 st cm wa nw wc sp sy sl se sm so sr sc pr at_ ta nt tc pa np pc)] W' fun e w' => e = .returned (.int .i64 E) ∧ PP w' ∧ BoxB B (OpCells 2 st cm wa nw wc sp sy sl se sm so sr sc pr at_ ta nt tc pa np pc) w')
    (hK : ∀ f' W', f' 4 = .int .i64 E → PP W' → K (frA 20 f') W') :
    Code.wp Tryz.prog (lvFst (apB 3)) (Exit.then K Q) (frA 20 f) W := by
  have HC := Lib.hid hC; have HK := Lib.hid hK; have HB := Lib.hid hB
  obtain ⟨mb, lb⟩ := hB
  clear hC hK
  have hidx := does_idx2
  show Code.wp _ _ _ { tmps := #[f 0, f 1, f 2, f 3, f 4, f 5, f 6, f 7, f 8, f 9, f 10, f 11, f 12, f 13, f 14, f 15, f 16, f 17, f 18, f 19], defers := [] } _
  rw [h0, h3]
  clear h0 h3
  conv => arg 2; whnf
  have HBD := Lib.hid (boxB_keep (Fr.refl N0 W).drew id HB.out)
  clear HB
  go_region_held3 (BoxB B (OpCells 2 st cm wa nw wc sp sy sl se sm so sr sc pr at_ ta nt tc pa np pc)) (first
    | (with_reducible assumption)
    | (with_reducible exact HBD.out)
    | (with_reducible exact hb3)
    | (with_reducible exact hb4)
    | fail) (first
    | (go_simp; go_at_call 54; refine (sDoes_any _).mono ?_; rintro e w3 ⟨rfl, hf3⟩; have hfw3 : Fr N0 W w3 := (Fr.refl N0 W).drew.then0 hf3; have hb3 := boxB_keep hf3 id HBD.out)
    | (go_simp; go_at_call 118; refine (HC.out _ hfw3).mono ?_; rintro e w4 ⟨rfl, hp4, hb4⟩)
    | fail)
  all_goals
    refine cut_use (n := 20) (K := K) _ rfl ?_
    exact HK.out _ _ rfl hp4
end Go.Proofs.YtefepfiijoafbaaGreat
