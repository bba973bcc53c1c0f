/-
  No cell of these rows narrows 'for every input' (looked for: loops, veiled, ifaces, maps, wideKeys, modest, calm, conditions, laid).
  DERIVED. THE GIVEN ROWS OF THIS SEAT. 5 by the template 'for every input the law returns true; each argument reads behind the call as it read before'; 0 by the template 'total and deterministic' (their statements: YtldboadcglofaaaTotals.lean).
  GIVEN WITH THE SEED: the statements are not yours to turn. If you find one false, say at which input.
  Laid BY PROGRAM, IN A SANDBOX (cutbox-rows.mjs): the forced cells as the released guide's own fill.sh prints them over the translation 2b485442840cf1b0… (all of the seat's roots in one cut). By AI agents, Wed Nov 11 2026. No macro, syntax, notation, axiom, sorry.
-/
import Derived.Test.YtldboadcglofaaaChecked
import GoSem.Claim
import GoSem.ClaimJoined
import GoSem.ClaimMapViews
import Derived.JoinedTies
import Derived.KernelRfl
namespace Go.Proofs.Ytldboadcglofaaa
/- THE CELL 'sum', in the pinned program and in every row, IS THE sha256 OF THE DUMP (.gsa) THAT YtldboadcglofaaaProg.lean LOADS. Nothing in Lean hashes anything: it is a label: what it is worth is what the hold of that sum in a sandbox is worth. -/
noncomputable def Try.pinned : Pinned := { name := "ytldboadcglofaaa", sum := "2b485442840cf1b0b81378e4b9630efb43695a53ad9faea6c5bdfd9434b13557", checked := Try.checked }
namespace Rows
def none {H : Type} : Left H := { results := [], args := [] }

/-- 'tesseralaw16.UidsAsks': WHATEVER THE INPUT: true; the input reads as it did. -/
def uidsAsksSpec : ChangeSpec := { name := "uidsAsks", fn := fun _ => fun
  | [d1, d2, d3, d4, d5] => { results := [.lit (.bool true)], args := [d1, d2, d3, d4, d5] }
  | _ => none }
def uidsAsksRow : OpenClaim := { program := "ytldboadcglofaaa", sum := "2b485442840cf1b0b81378e4b9630efb43695a53ad9faea6c5bdfd9434b13557", func := "tessera/tesseralaw16.UidsAsks", spec := "uidsAsks", unfollowed := true, recurses := true, apart := false }
def UidsAsksSaid : Prop := uidsAsksRow.holds Try.pinned (OpenSpec.ofChange uidsAsksSpec)

/-- ITS FALSE NEIGHBOUR: 'it returns false'. Refute it at one input. -/
def uidsAsksWrong : ChangeSpec := { name := "uidsAsks", fn := fun _ => fun
  | [d1, d2, d3, d4, d5] => { results := [.lit (.bool false)], args := [d1, d2, d3, d4, d5] }
  | _ => none }
def UidsAsksWrongFalsely : Prop := uidsAsksRow.holds Try.pinned (OpenSpec.ofChange uidsAsksWrong)

/-- 'tesseralaw16.UidsBytes': WHATEVER THE INPUT: true; the input reads as it did. -/
def uidsBytesSpec : ChangeSpec := { name := "uidsBytes", fn := fun _ => fun
  | [d1, d2] => { results := [.lit (.bool true)], args := [d1, d2] }
  | _ => none }
def uidsBytesRow : OpenClaim := { program := "ytldboadcglofaaa", sum := "2b485442840cf1b0b81378e4b9630efb43695a53ad9faea6c5bdfd9434b13557", func := "tessera/tesseralaw16.UidsBytes", spec := "uidsBytes", unfollowed := true, recurses := true, apart := false }
def UidsBytesSaid : Prop := uidsBytesRow.holds Try.pinned (OpenSpec.ofChange uidsBytesSpec)

/-- ITS FALSE NEIGHBOUR: 'it returns false'. Refute it at one input. -/
def uidsBytesWrong : ChangeSpec := { name := "uidsBytes", fn := fun _ => fun
  | [d1, d2] => { results := [.lit (.bool false)], args := [d1, d2] }
  | _ => none }
def UidsBytesWrongFalsely : Prop := uidsBytesRow.holds Try.pinned (OpenSpec.ofChange uidsBytesWrong)

/-- 'tesseralaw16.UidsSets': WHATEVER THE INPUT: true; the input reads as it did. -/
def uidsSetsSpec : ChangeSpec := { name := "uidsSets", fn := fun _ => fun
  | [d] => { results := [.lit (.bool true)], args := [d] }
  | _ => none }
def uidsSetsRow : OpenClaim := { program := "ytldboadcglofaaa", sum := "2b485442840cf1b0b81378e4b9630efb43695a53ad9faea6c5bdfd9434b13557", func := "tessera/tesseralaw16.UidsSets", spec := "uidsSets", unfollowed := true, recurses := true, apart := false }
def UidsSetsSaid : Prop := uidsSetsRow.holds Try.pinned (OpenSpec.ofChange uidsSetsSpec)

/-- ITS FALSE NEIGHBOUR: 'it returns false'. Refute it at one input. -/
def uidsSetsWrong : ChangeSpec := { name := "uidsSets", fn := fun _ => fun
  | [d] => { results := [.lit (.bool false)], args := [d] }
  | _ => none }
def UidsSetsWrongFalsely : Prop := uidsSetsRow.holds Try.pinned (OpenSpec.ofChange uidsSetsWrong)

/-- 'tesseralaw16.UidsAlgebra': WHATEVER THE INPUT: true; the input reads as it did. -/
def uidsAlgebraSpec : ChangeSpec := { name := "uidsAlgebra", fn := fun _ => fun
  | [d1, d2, d3, d4, d5] => { results := [.lit (.bool true)], args := [d1, d2, d3, d4, d5] }
  | _ => none }
def uidsAlgebraRow : OpenClaim := { program := "ytldboadcglofaaa", sum := "2b485442840cf1b0b81378e4b9630efb43695a53ad9faea6c5bdfd9434b13557", func := "tessera/tesseralaw16.UidsAlgebra", spec := "uidsAlgebra", unfollowed := true, recurses := true, apart := false }
def UidsAlgebraSaid : Prop := uidsAlgebraRow.holds Try.pinned (OpenSpec.ofChange uidsAlgebraSpec)

/-- ITS FALSE NEIGHBOUR: 'it returns false'. Refute it at one input. -/
def uidsAlgebraWrong : ChangeSpec := { name := "uidsAlgebra", fn := fun _ => fun
  | [d1, d2, d3, d4, d5] => { results := [.lit (.bool false)], args := [d1, d2, d3, d4, d5] }
  | _ => none }
def UidsAlgebraWrongFalsely : Prop := uidsAlgebraRow.holds Try.pinned (OpenSpec.ofChange uidsAlgebraWrong)

/-- 'tesseralaw16.UidsNil': WHATEVER THE INPUT: true; the input reads as it did. -/
def uidsNilSpec : ChangeSpec := { name := "uidsNil", fn := fun _ => fun
  | [d1, d2] => { results := [.lit (.bool true)], args := [d1, d2] }
  | _ => none }
def uidsNilRow : OpenClaim := { program := "ytldboadcglofaaa", sum := "2b485442840cf1b0b81378e4b9630efb43695a53ad9faea6c5bdfd9434b13557", func := "tessera/tesseralaw16.UidsNil", spec := "uidsNil", unfollowed := true, recurses := true, apart := false }
def UidsNilSaid : Prop := uidsNilRow.holds Try.pinned (OpenSpec.ofChange uidsNilSpec)

/-- ITS FALSE NEIGHBOUR: 'it returns false'. Refute it at one input. -/
def uidsNilWrong : ChangeSpec := { name := "uidsNil", fn := fun _ => fun
  | [d1, d2] => { results := [.lit (.bool false)], args := [d1, d2] }
  | _ => none }
def UidsNilWrongFalsely : Prop := uidsNilRow.holds Try.pinned (OpenSpec.ofChange uidsNilWrong)

/- THE SECOND FORM. 'bulk': how many values and letters a reading holds, each counted each time it is reached (what is shared counts as often as it is met; a slice's spare places count too). A statement '..UptoSaid' is the law's where the arguments, and the package variables that the reading takes, are together of bulk at most 1048576: NARROWER than '..Said'. Prove '..Said' where nothing that the law and all that it calls make is longer than what came in: it says more and counts as full. Else prove '..UptoSaid'. A law counts once. -/
mutual
def uptoBulk {H : Type} : DataW H → Nat
  | .lit (.string bytes) => bytes.length + 1
  | .lit _ => 1
  | .nil => 1
  | .ptr d => uptoBulk d + 1
  | .slice elems spare => uptoBulkAll elems + uptoBulkAll spare + 1
  | .agg parts => uptoBulkAll parts + 1
  | .iface _ d => uptoBulk d + 1
  | .map entries => uptoBulkEntries entries + 1
  | .held _ => 1
def uptoBulkAll {H : Type} : List (DataW H) → Nat
  | [] => 0
  | d :: r => uptoBulk d + uptoBulkAll r
def uptoBulkEntries {H : Type} : List (Lit × DataW H) → Nat
  | [] => 0
  | x :: r => uptoBulkEntry x + uptoBulkEntries r
def uptoBulkEntry {H : Type} : Lit × DataW H → Nat
  | (.string bytes, d) => bytes.length + uptoBulk d + 1
  | (_, d) => uptoBulk d + 1
 end
def uptoSmall : (H : Type) → List (DataW H) → Bool := fun _ ds => decide (uptoBulkAll ds ≤ 1048576)
def OpenSpec.upto (s : _root_.Go.ChangeSpec) : _root_.Go.OpenSpec := { _root_.Go.OpenSpec.ofChange s with cond := some uptoSmall }

/-- 'tesseralaw16.UidsAsks', WHERE WHAT IT READS IS OF BULK AT MOST 1048576: true; the input reads as it did. -/
def uidsAsksUptoRow : OpenClaim := { program := "ytldboadcglofaaa", sum := "2b485442840cf1b0b81378e4b9630efb43695a53ad9faea6c5bdfd9434b13557", func := "tessera/tesseralaw16.UidsAsks", spec := "uidsAsks", unfollowed := true, recurses := true, apart := false, narrowed := true }
def UidsAsksUptoSaid : Prop := uidsAsksUptoRow.holds Try.pinned (OpenSpec.upto uidsAsksSpec)

/-- 'tesseralaw16.UidsBytes', WHERE WHAT IT READS IS OF BULK AT MOST 1048576: true; the input reads as it did. -/
def uidsBytesUptoRow : OpenClaim := { program := "ytldboadcglofaaa", sum := "2b485442840cf1b0b81378e4b9630efb43695a53ad9faea6c5bdfd9434b13557", func := "tessera/tesseralaw16.UidsBytes", spec := "uidsBytes", unfollowed := true, recurses := true, apart := false, narrowed := true }
def UidsBytesUptoSaid : Prop := uidsBytesUptoRow.holds Try.pinned (OpenSpec.upto uidsBytesSpec)

/-- 'tesseralaw16.UidsSets', WHERE WHAT IT READS IS OF BULK AT MOST 1048576: true; the input reads as it did. -/
def uidsSetsUptoRow : OpenClaim := { program := "ytldboadcglofaaa", sum := "2b485442840cf1b0b81378e4b9630efb43695a53ad9faea6c5bdfd9434b13557", func := "tessera/tesseralaw16.UidsSets", spec := "uidsSets", unfollowed := true, recurses := true, apart := false, narrowed := true }
def UidsSetsUptoSaid : Prop := uidsSetsUptoRow.holds Try.pinned (OpenSpec.upto uidsSetsSpec)

/-- 'tesseralaw16.UidsAlgebra', WHERE WHAT IT READS IS OF BULK AT MOST 1048576: true; the input reads as it did. -/
def uidsAlgebraUptoRow : OpenClaim := { program := "ytldboadcglofaaa", sum := "2b485442840cf1b0b81378e4b9630efb43695a53ad9faea6c5bdfd9434b13557", func := "tessera/tesseralaw16.UidsAlgebra", spec := "uidsAlgebra", unfollowed := true, recurses := true, apart := false, narrowed := true }
def UidsAlgebraUptoSaid : Prop := uidsAlgebraUptoRow.holds Try.pinned (OpenSpec.upto uidsAlgebraSpec)

/-- 'tesseralaw16.UidsNil', WHERE WHAT IT READS IS OF BULK AT MOST 1048576: true; the input reads as it did. -/
def uidsNilUptoRow : OpenClaim := { program := "ytldboadcglofaaa", sum := "2b485442840cf1b0b81378e4b9630efb43695a53ad9faea6c5bdfd9434b13557", func := "tessera/tesseralaw16.UidsNil", spec := "uidsNil", unfollowed := true, recurses := true, apart := false, narrowed := true }
def UidsNilUptoSaid : Prop := uidsNilUptoRow.holds Try.pinned (OpenSpec.upto uidsNilSpec)

end Rows
end Go.Proofs.Ytldboadcglofaaa
