/- A region that draws its order and only reads, in the body of a range over a function. IndexParts: a round over the edges. IndexParts: the range over the edges. -/
import Derived.BigQuiet
import Derived.Test.YtefepfiijoafbaaGreatQItB
import Derived.Test.YtefepfiijoafbaaGreatQPtE
import Derived.Test.YtefepfiijoafbaaGreatQIEdges
import Derived.Test.YtefepfiijoafbaaGreatQWhere
namespace Go.Proofs.YtefepfiijoafbaaGreat
open Go.RowKit Go.Shelf
set_option linter.unusedVariables false
set_option linter.unusedSimpArgs false

end Go.Proofs.YtefepfiijoafbaaGreat
namespace Go.Proofs.YtefepfiijoafbaaGreat
open Go.RowKit Go.Shelf Go.Maps
attribute [local go_sem] Oper.semAt_some
attribute [local irreducible] wpQuiet
set_option linter.unusedVariables false
set_option linter.unusedSimpArgs false

def lxBody : Code → Code
  | .rangeFunc _ _ _ b => b
  | c => c
end Go.Proofs.YtefepfiijoafbaaGreat
namespace Go.Proofs.YtefepfiijoafbaaGreat
open Go.RowKit Go.Shelf Go.Maps
attribute [local go_sem] Oper.semAt_some
attribute [local irreducible] wpQuiet
set_option linter.unusedVariables false
set_option linter.unusedSimpArgs false

section
variable {W : World} {R : Nat → Prop} {p : Nat} {m : PL} {N : Nat} (h : IsPL W R p m) (hb : Built cFr2 m N) (hN : N ≤ 1000) (t : Int) (ht : 0 ≤ t)
include h hb hN ht
end
end Go.Proofs.YtefepfiijoafbaaGreat
