/- tesseraref18.List.Backs: one comparison. tesseraref18.List.Backs, whole. -/
import Derived.Test.YtefepfiijoafbaaGreatQXUids
import Derived.Test.YtefepfiijoafbaaGreatQWhere
namespace Go.Proofs.YtefepfiijoafbaaGreat
open Go.RowKit Go.Shelf Go.Maps
attribute [local go_sem] Oper.semAt_some
attribute [local irreducible] wpQuiet
set_option linter.unusedVariables false
set_option linter.unusedSimpArgs false

end Go.Proofs.YtefepfiijoafbaaGreat
namespace Go.Proofs.YtefepfiijoafbaaGreat
open Go.RowKit Go.Shelf Go.Maps Go.Sort
attribute [local go_sem] Oper.semAt_some
attribute [local irreducible] wpQuiet
set_option linter.unusedVariables false
set_option linter.unusedSimpArgs false

theorem seq_split {P : Program} {c d : Code} {Q : Exit → Act → World → Prop} {a : Act} {W : World} (h : ∀ K : Act → World → Prop, (∀ a w, Code.wp P d Q a w → K a w) → Code.wp P c (Exit.then K Q) a W) : Code.wp P (c.seq d) Q a W := wp_seq (h _ fun _ _ h => h)
theorem five_frT {T : Nat → Prop} {b off : Nat} {z : Val} {w w' : World} (h : Five b off z w) (hf : Fr T w w') (hn : ¬ T b) : Five b off z w' := ⟨hf.cell hn h.1, hf.cell hn h.2.1, hf.cell hn h.2.2.1, hf.cell hn h.2.2.2.1, hf.cell hn h.2.2.2.2⟩
end Go.Proofs.YtefepfiijoafbaaGreat
