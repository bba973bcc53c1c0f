/- Package index at a list that is nil or unmade: ErrNil. index.Is. IndexNone: its regions. -/
import Derived.Deep.DrawnRows
import Derived.Deep.RegionHeld3
import Derived.Test.YtefepfiijoafbaaGreatQFindK
import Derived.Test.YtefepfiijoafbaaGreatQOrdP
import Derived.Test.YtefepfiijoafbaaGreatQIOrder
import Derived.Test.YtefepfiijoafbaaGreatQBS
import Derived.Test.YtefepfiijoafbaaGreatQLookP
import Derived.Test.YtefepfiijoafbaaGreatQVOrd3
import Derived.Test.YtefepfiijoafbaaGreatQValR
namespace Go.Proofs.YtefepfiijoafbaaGreat
open Go.RowKit Go.Shelf Go.Maps
attribute [local go_sem] Oper.semAt_some
attribute [local irreducible] wpQuiet
set_option linter.unusedVariables false
set_option linter.unusedSimpArgs false

/-- A list that is nil or unmade. -/
def PNone (W : World) (v : Value) : Prop := v = .pointer none ∨ ∃ p, v = .pointer (some ⟨p, 0, none⟩) ∧ W.cell? ⟨p, 0, none⟩ = some (.string ⟨#[]⟩)
theorem PNone.fr {W W' : World} {v : Value} (h : PNone W v) (hf : Fr N0 W W') : PNone W' v := by
  rcases h with h | ⟨p, h, hc⟩
  · exact .inl h
  · exact .inr ⟨p, h, hf.cell id hc⟩
end Go.Proofs.YtefepfiijoafbaaGreat
namespace Go.Proofs.YtefepfiijoafbaaGreat
open Go.RowKit Go.Shelf Go.Maps
attribute [local go_sem] Oper.semAt_some
attribute [local irreducible] wpQuiet
set_option linter.unusedVariables false
set_option linter.unusedSimpArgs false

end Go.Proofs.YtefepfiijoafbaaGreat
namespace Go.Proofs.YtefepfiijoafbaaGreat
open Go.RowKit Go.Shelf Go.Maps
attribute [local go_sem] Oper.semAt_some
attribute [local go_sem ↓] Go.wp_at_zero Go.wp_at_succ
attribute [local irreducible] wpQuiet
set_option linter.unusedVariables false
set_option linter.unusedSimpArgs false

/-- What lies while IndexNone runs. -/
structure RnW (A B p : Nat) (fn : Fn) (vv uv sv : Value) (W : World) : Prop where
  boxA : BoxB A #[.pointer none, .pointer (some ⟨p, 0, none⟩)] W
  boxB : BoxB B (fn.enc vv uv sv) W
  none_ : W.cell? ⟨p, 0, none⟩ = some (.string ⟨#[]⟩)
section
variable {A B p : Nat} {fn : Fn} {vv uv sv : Value} {W W' : World}
theorem RnW.fr (h : RnW A B p fn vv uv sv W) (hf : Fr N0 W W') : RnW A B p fn vv uv sv W' := ⟨boxB_keep hf id h.boxA, boxB_keep hf id h.boxB, hf.cell id h.none_⟩
end

end Go.Proofs.YtefepfiijoafbaaGreat
