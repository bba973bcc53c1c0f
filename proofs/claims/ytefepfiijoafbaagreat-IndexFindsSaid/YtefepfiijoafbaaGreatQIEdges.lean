/- PValues IEdges -/
import Derived.Test.YtefepfiijoafbaaGreatQLookP
import Derived.Test.YtefepfiijoafbaaGreatQWhere
import Derived.Test.YtefepfiijoafbaaGreatQFndB
import Derived.Test.YtefepfiijoafbaaGreatQValR
import Derived.Test.YtefepfiijoafbaaGreatQOrdP
import Derived.Test.YtefepfiijoafbaaGreatQLxO
set_option linter.unusedVariables false
set_option linter.unusedSimpArgs false
set_option maxRecDepth 100000
namespace Go.Proofs.YtefepfiijoafbaaGreat
open Go.RowKit Go.Shelf Go.Maps Go.Sort
attribute [local go_sem] Oper.semAt_some
attribute [local irreducible] wpQuiet
section
variable (W:World) (R:Nat→Prop) (p:Nat) (l:PL) (N:Nat) (h:IsPL W R p l) (hl:l.AtOk N) (hN:N≤8000000000) (t u:Int)
include h hl hN
end
end Go.Proofs.YtefepfiijoafbaaGreat
