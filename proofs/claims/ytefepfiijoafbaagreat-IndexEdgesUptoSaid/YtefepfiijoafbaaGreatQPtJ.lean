/- A region that draws its order and only reads, in the body of a range over a function. IndexParts: a round over the edges. IndexParts: the range over the edges. -/
import Derived.BigQuiet
import Derived.Test.YtefepfiijoafbaaGreatQRangeA
import Derived.Test.YtefepfiijoafbaaGreatQPtE
import Derived.Test.YtefepfiijoafbaaGreatQIEdges
import Derived.Test.YtefepfiijoafbaaGreatQIAt2
namespace Go.Proofs.YtefepfiijoafbaaGreat
open Go.RowKit Go.Shelf
set_option linter.unusedVariables false
set_option linter.unusedSimpArgs false

end Go.Proofs.YtefepfiijoafbaaGreat
namespace Go.Proofs.YtefepfiijoafbaaGreat
open Go.RowKit Go.Shelf Go.Maps
attribute [local go_sem] Oper.semAt_some
attribute [local irreducible] wpQuiet
set_option linter.unusedVariables false
set_option linter.unusedSimpArgs false

noncomputable def ptRng : Code := lxIn (lxSnd (lvFst (ptB 15)))
def lxBody : Code → Code
  | .rangeFunc _ _ _ b => b
  | c => c
noncomputable def ptRound : Code := lxBody ptRng
/-- What is known between rounds: the boxes. -/
def PtR (BR B5 B11 p2 : Nat) (t : Int) (S : Nat → Prop) (pre : List (Int × Val)) (W : World) : Prop :=
  (S BR ∧ S B5 ∧ S B11) ∧ W.heap[BR]? = some (.cells #[.bool false] 4 (0, 0)) ∧ W.heap[B5]? = some (.cells #[.int .u64 t] 33 (0, 0)) ∧ W.heap[B11]? = some (.cells #[vP p2] 51 (0, 0))
/-- What Edges answers of the two ends. -/
def EdgP (W : World) (p2 : Nat) (t : Int) (back : Bool) (u : Int) (xs : List Int) : Prop := ∀ W', Fr N0 W W' → Calls Tryz.prog 35 #[vP p2, .int .u64 t, .bool back, .int .u64 u] W' fun e w' => ∃ v b, e = .returned (.tuple #[v, .int .i64 0]) ∧ Ints .u64 w' b v xs ∧ Fr N0 W' w'

end Go.Proofs.YtefepfiijoafbaaGreat
namespace Go.Proofs.YtefepfiijoafbaaGreat
open Go.RowKit Go.Shelf Go.Maps
attribute [local go_sem] Oper.semAt_some
attribute [local irreducible] wpQuiet
set_option linter.unusedVariables false
set_option linter.unusedSimpArgs false

section
variable {W : World} {R : Nat → Prop} {p : Nat} {m : PL} {N : Nat} (h : IsPL W R p m) (hb : Built cFr2 m N) (hN : N ≤ 1000) (t : Int) (ht : 0 ≤ t)
include h hb hN ht
end
end Go.Proofs.YtefepfiijoafbaaGreat
