/- slices.Sort at uint64, part So0: the walks of its functions, turned by program (gensort.py) from the kit's walks of the same functions at int.
   Condition: fewer than 2^62 numbers. -/
import Derived.Test.YtldboadcglofaaaBase
import Derived.Test.YtldboadcglofaaaSoBits
import Derived.Test.YtldboadcglofaaaRows
import Derived.Sort.Walk13
import Derived.Sort.Walk7
import Derived.Sort.Walk11
import Derived.Sort.WalkC4
import Derived.Sort.WalkD2
import Derived.Sort.WalkA6
import Derived.Sort.WalkA14
import Derived.Sort.AssemblyPlain
namespace Go.Proofs.Ytldboadcglofaaa
open Go.RowKit Go.Sort
set_option linter.unusedVariables false
set_option linter.unusedSimpArgs false

abbrev encU : Int → Value := fun x => Value.int .u64 x

set_option maxHeartbeats 1000000 in
theorem U.cmp_isNaN_int (x : Int) (w : World) : Calls Try.prog 87 #[.int .u64 x] w fun e w' => e = .returned (.bool false) ∧ w' = w := by
  go_enter Try.func87, Try.ntmps87
  go_wp2
  go_ret
  exact ⟨by simp, rfl⟩

set_option maxHeartbeats 1000000 in
theorem U.cmp_Less_int (x y : Int) (w : World) : Calls Try.prog 72 #[.int .u64 x, .int .u64 y] w fun e w' => e = .returned (.bool (Sort.ltInt x y)) ∧ w' = w := by
  go_enter Try.func72, Try.ntmps72
  go_wp2_with (go_at_call 87; refine (U.cmp_isNaN_int _ _).mono ?_; rintro e w' ⟨rfl, rfl⟩)
  go_ret
  exact ⟨rfl, rfl⟩

end Go.Proofs.Ytldboadcglofaaa
