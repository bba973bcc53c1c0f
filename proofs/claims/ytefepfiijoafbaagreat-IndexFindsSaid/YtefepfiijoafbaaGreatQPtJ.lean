/- RoundQ PtI PtJ -/
import Derived.BigQuiet
import Derived.Test.YtefepfiijoafbaaGreatQItB
import Derived.Test.YtefepfiijoafbaaGreatQPtE
import Derived.Test.YtefepfiijoafbaaGreatQIEdges
import Derived.Test.YtefepfiijoafbaaGreatQWhere
set_option linter.unusedVariables false
set_option linter.unusedSimpArgs false
set_option maxRecDepth 100000
namespace Go.Proofs.YtefepfiijoafbaaGreat
section
open Go.RowKit Go.Shelf

end
section
open Go.RowKit Go.Shelf Go.Maps
attribute [local go_sem] Oper.semAt_some
attribute [local irreducible] wpQuiet
def lxBody:Code→Code
 | .rangeFunc _ _ _ b=>b
 | c=>c
section
variable {W:World} {R:Nat→Prop} {p:Nat} {m:PL} {N:Nat} (h:IsPL W R p m) (hb:Built cFr2 m N) (hN:N≤1000) (t:Int) (ht:0≤t)
include h hb hN ht
end
end
end Go.Proofs.YtefepfiijoafbaaGreat
