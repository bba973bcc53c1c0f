/- post.List.Values and Backs, in general. index.Edges and Count, where they answer. -/
import Derived.Test.YtefepfiijoafbaaGreatQLookP
import Derived.Test.YtefepfiijoafbaaGreatQWhere
import Derived.Test.YtefepfiijoafbaaGreatQFndB
import Derived.Test.YtefepfiijoafbaaGreatQValR
import Derived.Test.YtefepfiijoafbaaGreatQOrdP
import Derived.Test.YtefepfiijoafbaaGreatQLxO
namespace Go.Proofs.YtefepfiijoafbaaGreat
open Go.RowKit Go.Shelf Go.Maps Go.Sort
attribute [local go_sem] Oper.semAt_some
attribute [local irreducible] wpQuiet
set_option linter.unusedVariables false
set_option linter.unusedSimpArgs false

end Go.Proofs.YtefepfiijoafbaaGreat
namespace Go.Proofs.YtefepfiijoafbaaGreat
open Go.RowKit Go.Shelf Go.Maps Go.Sort
attribute [local go_sem] Oper.semAt_some
attribute [local irreducible] wpQuiet
set_option linter.unusedVariables false
set_option linter.unusedSimpArgs false

section
variable (W : World) (R : Nat → Prop) (p : Nat) (l : PL) (N : Nat) (h : IsPL W R p l) (hl : l.AtOk N) (hN : N ≤ 8000000000) (t u : Int)
include h hl hN
end
end Go.Proofs.YtefepfiijoafbaaGreat
