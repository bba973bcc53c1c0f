/-
  No cell of these rows narrows 'for every input' (looked for: loops, veiled, ifaces, maps, wideKeys, modest, calm, conditions, laid).
  DERIVED. THE GIVEN ROWS OF THIS SEAT. 7 by the template 'for every input the law returns true; each argument reads behind the call as it read before'; 0 by the template 'total and deterministic' (their statements: YtefepfiijoafbaaGreatTotals.lean).
  GIVEN WITH THE SEED: the statements are not yours to turn. If you find one false, say at which input.
  Laid BY PROGRAM, IN A SANDBOX (cutbox-rows.mjs): the forced cells as the released guide's own fill.sh prints them over the translation 9903337416ae2f06… (all of the seat's roots in one cut). By AI agents, Wed Nov 11 2026. No macro, syntax, notation, axiom, sorry.
-/
import Derived.Test.YtefepfiijoafbaaGreatChecked
import GoSem.Claim
import GoSem.ClaimJoined
import GoSem.ClaimMapViews
import Derived.JoinedTies
import Derived.KernelRfl
namespace Go.Proofs.YtefepfiijoafbaaGreat
/- THE CELL 'sum', in the pinned program and in every row, IS THE sha256 OF THE DUMP (.gsa) THAT YtefepfiijoafbaaGreatProg.lean LOADS. Nothing in Lean hashes anything: it is a label: what it is worth is what the hold of that sum in a sandbox is worth. -/
noncomputable def Tryz.pinned : Pinned := { name := "ytefepfiijoafbaagreat", sum := "9903337416ae2f069591ec3a4de761ea7e9ec2806fd82f063cd53ade843532d3", checked := Tryz.checked }
namespace Rows
def none {H : Type} : Left H := { results := [], args := [] }

/-- 'tesseralaw21.ShardOrder': WHATEVER THE INPUT: true; the input reads as it did. -/
def shardOrderSpec : ChangeSpec := { name := "shardOrder", fn := fun _ => fun
  | [d1, d2, d3] => { results := [.lit (.bool true)], args := [d1, d2, d3] }
  | _ => none }
def shardOrderRow : OpenClaim := { program := "ytefepfiijoafbaagreat", sum := "9903337416ae2f069591ec3a4de761ea7e9ec2806fd82f063cd53ade843532d3", func := "tessera/tesseralaw21.ShardOrder", spec := "shardOrder", inPlace := ["slices.overlaps[uint64]", "slices.overlaps[tessera/api.Commit]", "slices.overlaps[tessera/api.Value]"], unfollowed := true, recurses := true, apart := false }
def ShardOrderSaid : Prop := shardOrderRow.holds Tryz.pinned (OpenSpec.ofChange shardOrderSpec)

/-- ITS FALSE NEIGHBOUR: 'it returns false'. Refute it at one input. -/
def shardOrderWrong : ChangeSpec := { name := "shardOrder", fn := fun _ => fun
  | [d1, d2, d3] => { results := [.lit (.bool false)], args := [d1, d2, d3] }
  | _ => none }
def ShardOrderWrongFalsely : Prop := shardOrderRow.holds Tryz.pinned (OpenSpec.ofChange shardOrderWrong)

/-- 'tesseralaw21.ShardOnce': WHATEVER THE INPUT: true; the input reads as it did. -/
def shardOnceSpec : ChangeSpec := { name := "shardOnce", fn := fun _ => fun
  | [d] => { results := [.lit (.bool true)], args := [d] }
  | _ => none }
def shardOnceRow : OpenClaim := { program := "ytefepfiijoafbaagreat", sum := "9903337416ae2f069591ec3a4de761ea7e9ec2806fd82f063cd53ade843532d3", func := "tessera/tesseralaw21.ShardOnce", spec := "shardOnce", inPlace := ["slices.overlaps[uint64]", "slices.overlaps[tessera/api.Commit]", "slices.overlaps[tessera/api.Value]"], unfollowed := true, recurses := true, apart := false }
def ShardOnceSaid : Prop := shardOnceRow.holds Tryz.pinned (OpenSpec.ofChange shardOnceSpec)

/-- ITS FALSE NEIGHBOUR: 'it returns false'. Refute it at one input. -/
def shardOnceWrong : ChangeSpec := { name := "shardOnce", fn := fun _ => fun
  | [d] => { results := [.lit (.bool false)], args := [d] }
  | _ => none }
def ShardOnceWrongFalsely : Prop := shardOnceRow.holds Tryz.pinned (OpenSpec.ofChange shardOnceWrong)

/-- 'tesseralaw19.IndexOrders': WHATEVER THE INPUT: true; the input reads as it did. -/
def indexOrdersSpec : ChangeSpec := { name := "indexOrders", fn := fun _ => fun
  | [d1, d2, d3, d4, d5, d6] => { results := [.lit (.bool true)], args := [d1, d2, d3, d4, d5, d6] }
  | _ => none }
def indexOrdersRow : OpenClaim := { program := "ytefepfiijoafbaagreat", sum := "9903337416ae2f069591ec3a4de761ea7e9ec2806fd82f063cd53ade843532d3", func := "tessera/tesseralaw19.IndexOrders", spec := "indexOrders", inPlace := ["slices.overlaps[uint64]", "slices.overlaps[tessera/api.Commit]", "slices.overlaps[tessera/api.Value]"], unfollowed := true, recurses := true, apart := false }
def IndexOrdersSaid : Prop := indexOrdersRow.holds Tryz.pinned (OpenSpec.ofChange indexOrdersSpec)

/-- ITS FALSE NEIGHBOUR: 'it returns false'. Refute it at one input. -/
def indexOrdersWrong : ChangeSpec := { name := "indexOrders", fn := fun _ => fun
  | [d1, d2, d3, d4, d5, d6] => { results := [.lit (.bool false)], args := [d1, d2, d3, d4, d5, d6] }
  | _ => none }
def IndexOrdersWrongFalsely : Prop := indexOrdersRow.holds Tryz.pinned (OpenSpec.ofChange indexOrdersWrong)

/-- 'tesseralaw19.IndexParts': WHATEVER THE INPUT: true; the input reads as it did. -/
def indexPartsSpec : ChangeSpec := { name := "indexParts", fn := fun _ => fun
  | [d1, d2, d3, d4] => { results := [.lit (.bool true)], args := [d1, d2, d3, d4] }
  | _ => none }
def indexPartsRow : OpenClaim := { program := "ytefepfiijoafbaagreat", sum := "9903337416ae2f069591ec3a4de761ea7e9ec2806fd82f063cd53ade843532d3", func := "tessera/tesseralaw19.IndexParts", spec := "indexParts", inPlace := ["slices.overlaps[uint64]", "slices.overlaps[tessera/api.Commit]", "slices.overlaps[tessera/api.Value]"], unfollowed := true, recurses := true, apart := false }
def IndexPartsSaid : Prop := indexPartsRow.holds Tryz.pinned (OpenSpec.ofChange indexPartsSpec)

/-- ITS FALSE NEIGHBOUR: 'it returns false'. Refute it at one input. -/
def indexPartsWrong : ChangeSpec := { name := "indexParts", fn := fun _ => fun
  | [d1, d2, d3, d4] => { results := [.lit (.bool false)], args := [d1, d2, d3, d4] }
  | _ => none }
def IndexPartsWrongFalsely : Prop := indexPartsRow.holds Tryz.pinned (OpenSpec.ofChange indexPartsWrong)

/-- 'tesseralaw19.IndexFinds': WHATEVER THE INPUT: true; the input reads as it did. -/
def indexFindsSpec : ChangeSpec := { name := "indexFinds", fn := fun _ => fun
  | [d1, d2, d3, d4, d5, d6] => { results := [.lit (.bool true)], args := [d1, d2, d3, d4, d5, d6] }
  | _ => none }
def indexFindsRow : OpenClaim := { program := "ytefepfiijoafbaagreat", sum := "9903337416ae2f069591ec3a4de761ea7e9ec2806fd82f063cd53ade843532d3", func := "tessera/tesseralaw19.IndexFinds", spec := "indexFinds", inPlace := ["slices.overlaps[uint64]", "slices.overlaps[tessera/api.Commit]", "slices.overlaps[tessera/api.Value]"], unfollowed := true, recurses := true, apart := false }
def IndexFindsSaid : Prop := indexFindsRow.holds Tryz.pinned (OpenSpec.ofChange indexFindsSpec)

/-- ITS FALSE NEIGHBOUR: 'it returns false'. Refute it at one input. -/
def indexFindsWrong : ChangeSpec := { name := "indexFinds", fn := fun _ => fun
  | [d1, d2, d3, d4, d5, d6] => { results := [.lit (.bool false)], args := [d1, d2, d3, d4, d5, d6] }
  | _ => none }
def IndexFindsWrongFalsely : Prop := indexFindsRow.holds Tryz.pinned (OpenSpec.ofChange indexFindsWrong)

/-- 'tesseralaw19.IndexNone': WHATEVER THE INPUT: true; the input reads as it did. -/
def indexNoneSpec : ChangeSpec := { name := "indexNone", fn := fun _ => fun
  | [d1, d2, d3] => { results := [.lit (.bool true)], args := [d1, d2, d3] }
  | _ => none }
def indexNoneRow : OpenClaim := { program := "ytefepfiijoafbaagreat", sum := "9903337416ae2f069591ec3a4de761ea7e9ec2806fd82f063cd53ade843532d3", func := "tessera/tesseralaw19.IndexNone", spec := "indexNone", inPlace := ["slices.overlaps[uint64]", "slices.overlaps[tessera/api.Commit]", "slices.overlaps[tessera/api.Value]"], unfollowed := true, recurses := true, apart := false }
def IndexNoneSaid : Prop := indexNoneRow.holds Tryz.pinned (OpenSpec.ofChange indexNoneSpec)

/-- ITS FALSE NEIGHBOUR: 'it returns false'. Refute it at one input. -/
def indexNoneWrong : ChangeSpec := { name := "indexNone", fn := fun _ => fun
  | [d1, d2, d3] => { results := [.lit (.bool false)], args := [d1, d2, d3] }
  | _ => none }
def IndexNoneWrongFalsely : Prop := indexNoneRow.holds Tryz.pinned (OpenSpec.ofChange indexNoneWrong)

/-- 'tesseralaw19.IndexEdges': WHATEVER THE INPUT: true; the input reads as it did. -/
def indexEdgesSpec : ChangeSpec := { name := "indexEdges", fn := fun _ => fun
  | [d1, d2, d3, d4, d5, d6] => { results := [.lit (.bool true)], args := [d1, d2, d3, d4, d5, d6] }
  | _ => none }
def indexEdgesRow : OpenClaim := { program := "ytefepfiijoafbaagreat", sum := "9903337416ae2f069591ec3a4de761ea7e9ec2806fd82f063cd53ade843532d3", func := "tessera/tesseralaw19.IndexEdges", spec := "indexEdges", inPlace := ["slices.overlaps[uint64]", "slices.overlaps[tessera/api.Commit]", "slices.overlaps[tessera/api.Value]"], unfollowed := true, recurses := true, apart := false }
def IndexEdgesSaid : Prop := indexEdgesRow.holds Tryz.pinned (OpenSpec.ofChange indexEdgesSpec)

/-- ITS FALSE NEIGHBOUR: 'it returns false'. Refute it at one input. -/
def indexEdgesWrong : ChangeSpec := { name := "indexEdges", fn := fun _ => fun
  | [d1, d2, d3, d4, d5, d6] => { results := [.lit (.bool false)], args := [d1, d2, d3, d4, d5, d6] }
  | _ => none }
def IndexEdgesWrongFalsely : Prop := indexEdgesRow.holds Tryz.pinned (OpenSpec.ofChange indexEdgesWrong)

/- THE SECOND FORM. 'bulk': how many values and letters a reading holds, each counted each time it is reached (what is shared counts as often as it is met; a slice's spare places count too). A statement '..UptoSaid' is the law's where the arguments, and the package variables that the reading takes, are together of bulk at most 1048576: NARROWER than '..Said'. Prove '..Said' where nothing that the law and all that it calls make is longer than what came in: it says more and counts as full. Else prove '..UptoSaid'. A law counts once. -/
mutual
def uptoBulk {H : Type} : DataW H → Nat
  | .lit (.string bytes) => bytes.length + 1
  | .lit _ => 1
  | .nil => 1
  | .ptr d => uptoBulk d + 1
  | .slice elems spare => uptoBulkAll elems + uptoBulkAll spare + 1
  | .agg parts => uptoBulkAll parts + 1
  | .iface _ d => uptoBulk d + 1
  | .map entries => uptoBulkEntries entries + 1
  | .held _ => 1
def uptoBulkAll {H : Type} : List (DataW H) → Nat
  | [] => 0
  | d :: r => uptoBulk d + uptoBulkAll r
def uptoBulkEntries {H : Type} : List (Lit × DataW H) → Nat
  | [] => 0
  | x :: r => uptoBulkEntry x + uptoBulkEntries r
def uptoBulkEntry {H : Type} : Lit × DataW H → Nat
  | (.string bytes, d) => bytes.length + uptoBulk d + 1
  | (_, d) => uptoBulk d + 1
 end
def uptoSmall : (H : Type) → List (DataW H) → Bool := fun _ ds => decide (uptoBulkAll ds ≤ 1048576)
def OpenSpec.upto (s : _root_.Go.ChangeSpec) : _root_.Go.OpenSpec := { _root_.Go.OpenSpec.ofChange s with cond := some uptoSmall }

/-- 'tesseralaw21.ShardOrder', WHERE WHAT IT READS IS OF BULK AT MOST 1048576: true; the input reads as it did. -/
def shardOrderUptoRow : OpenClaim := { program := "ytefepfiijoafbaagreat", sum := "9903337416ae2f069591ec3a4de761ea7e9ec2806fd82f063cd53ade843532d3", func := "tessera/tesseralaw21.ShardOrder", spec := "shardOrder", inPlace := ["slices.overlaps[uint64]", "slices.overlaps[tessera/api.Commit]", "slices.overlaps[tessera/api.Value]"], unfollowed := true, recurses := true, apart := false, narrowed := true }
def ShardOrderUptoSaid : Prop := shardOrderUptoRow.holds Tryz.pinned (OpenSpec.upto shardOrderSpec)

/-- 'tesseralaw21.ShardOnce', WHERE WHAT IT READS IS OF BULK AT MOST 1048576: true; the input reads as it did. -/
def shardOnceUptoRow : OpenClaim := { program := "ytefepfiijoafbaagreat", sum := "9903337416ae2f069591ec3a4de761ea7e9ec2806fd82f063cd53ade843532d3", func := "tessera/tesseralaw21.ShardOnce", spec := "shardOnce", inPlace := ["slices.overlaps[uint64]", "slices.overlaps[tessera/api.Commit]", "slices.overlaps[tessera/api.Value]"], unfollowed := true, recurses := true, apart := false, narrowed := true }
def ShardOnceUptoSaid : Prop := shardOnceUptoRow.holds Tryz.pinned (OpenSpec.upto shardOnceSpec)

/-- 'tesseralaw19.IndexOrders', WHERE WHAT IT READS IS OF BULK AT MOST 1048576: true; the input reads as it did. -/
def indexOrdersUptoRow : OpenClaim := { program := "ytefepfiijoafbaagreat", sum := "9903337416ae2f069591ec3a4de761ea7e9ec2806fd82f063cd53ade843532d3", func := "tessera/tesseralaw19.IndexOrders", spec := "indexOrders", inPlace := ["slices.overlaps[uint64]", "slices.overlaps[tessera/api.Commit]", "slices.overlaps[tessera/api.Value]"], unfollowed := true, recurses := true, apart := false, narrowed := true }
def IndexOrdersUptoSaid : Prop := indexOrdersUptoRow.holds Tryz.pinned (OpenSpec.upto indexOrdersSpec)

/-- 'tesseralaw19.IndexParts', WHERE WHAT IT READS IS OF BULK AT MOST 1048576: true; the input reads as it did. -/
def indexPartsUptoRow : OpenClaim := { program := "ytefepfiijoafbaagreat", sum := "9903337416ae2f069591ec3a4de761ea7e9ec2806fd82f063cd53ade843532d3", func := "tessera/tesseralaw19.IndexParts", spec := "indexParts", inPlace := ["slices.overlaps[uint64]", "slices.overlaps[tessera/api.Commit]", "slices.overlaps[tessera/api.Value]"], unfollowed := true, recurses := true, apart := false, narrowed := true }
def IndexPartsUptoSaid : Prop := indexPartsUptoRow.holds Tryz.pinned (OpenSpec.upto indexPartsSpec)

/-- 'tesseralaw19.IndexFinds', WHERE WHAT IT READS IS OF BULK AT MOST 1048576: true; the input reads as it did. -/
def indexFindsUptoRow : OpenClaim := { program := "ytefepfiijoafbaagreat", sum := "9903337416ae2f069591ec3a4de761ea7e9ec2806fd82f063cd53ade843532d3", func := "tessera/tesseralaw19.IndexFinds", spec := "indexFinds", inPlace := ["slices.overlaps[uint64]", "slices.overlaps[tessera/api.Commit]", "slices.overlaps[tessera/api.Value]"], unfollowed := true, recurses := true, apart := false, narrowed := true }
def IndexFindsUptoSaid : Prop := indexFindsUptoRow.holds Tryz.pinned (OpenSpec.upto indexFindsSpec)

/-- 'tesseralaw19.IndexNone', WHERE WHAT IT READS IS OF BULK AT MOST 1048576: true; the input reads as it did. -/
def indexNoneUptoRow : OpenClaim := { program := "ytefepfiijoafbaagreat", sum := "9903337416ae2f069591ec3a4de761ea7e9ec2806fd82f063cd53ade843532d3", func := "tessera/tesseralaw19.IndexNone", spec := "indexNone", inPlace := ["slices.overlaps[uint64]", "slices.overlaps[tessera/api.Commit]", "slices.overlaps[tessera/api.Value]"], unfollowed := true, recurses := true, apart := false, narrowed := true }
def IndexNoneUptoSaid : Prop := indexNoneUptoRow.holds Tryz.pinned (OpenSpec.upto indexNoneSpec)

/-- 'tesseralaw19.IndexEdges', WHERE WHAT IT READS IS OF BULK AT MOST 1048576: true; the input reads as it did. -/
def indexEdgesUptoRow : OpenClaim := { program := "ytefepfiijoafbaagreat", sum := "9903337416ae2f069591ec3a4de761ea7e9ec2806fd82f063cd53ade843532d3", func := "tessera/tesseralaw19.IndexEdges", spec := "indexEdges", inPlace := ["slices.overlaps[uint64]", "slices.overlaps[tessera/api.Commit]", "slices.overlaps[tessera/api.Value]"], unfollowed := true, recurses := true, apart := false, narrowed := true }
def IndexEdgesUptoSaid : Prop := indexEdgesUptoRow.holds Tryz.pinned (OpenSpec.upto indexEdgesSpec)

end Rows
end Go.Proofs.YtefepfiijoafbaaGreat
