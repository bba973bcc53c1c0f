/- Package index at a list that is nil or unmade: ErrNil. index.Is. IndexNone: its regions. -/
import Derived.Deep.DrawnRows
import Derived.Deep.RegionHeld3
import Derived.Test.YtefepfiijoafbaaGreatQFindK
import Derived.Test.YtefepfiijoafbaaGreatQOrdP
import Derived.Test.YtefepfiijoafbaaGreatQIOrder
import Derived.Test.YtefepfiijoafbaaGreatQBS
import Derived.Test.YtefepfiijoafbaaGreatQLookP
import Derived.Test.YtefepfiijoafbaaGreatQVOrd3
import Derived.Test.YtefepfiijoafbaaGreatQValR
namespace Go.Proofs.YtefepfiijoafbaaGreat
open Go.RowKit Go.Shelf Go.Maps
attribute [local go_sem] Oper.semAt_some
attribute [local irreducible] wpQuiet
set_option linter.unusedVariables false
set_option linter.unusedSimpArgs false

/-- A list that is nil or unmade. -/
def PNone (W : World) (v : Value) : Prop := v = .pointer none ∨ ∃ p, v = .pointer (some ⟨p, 0, none⟩) ∧ W.cell? ⟨p, 0, none⟩ = some (.string ⟨#[]⟩)
theorem PNone.fr {W W' : World} {v : Value} (h : PNone W v) (hf : Fr N0 W W') : PNone W' v := by
  rcases h with h | ⟨p, h, hc⟩
  · exact .inl h
  · exact .inr ⟨p, h, hf.cell id hc⟩
end Go.Proofs.YtefepfiijoafbaaGreat
namespace Go.Proofs.YtefepfiijoafbaaGreat
open Go.RowKit Go.Shelf Go.Maps
attribute [local go_sem] Oper.semAt_some
attribute [local irreducible] wpQuiet
set_option linter.unusedVariables false
set_option linter.unusedSimpArgs false

end Go.Proofs.YtefepfiijoafbaaGreat
namespace Go.Proofs.YtefepfiijoafbaaGreat
open Go.RowKit Go.Shelf Go.Maps
attribute [local go_sem] Oper.semAt_some
attribute [local go_sem ↓] Go.wp_at_zero Go.wp_at_succ
attribute [local irreducible] wpQuiet
set_option linter.unusedVariables false
set_option linter.unusedSimpArgs false

def lxSnd : Code → Code
  | .seq _ b => b
  | c => c
def lxLoop : Code → Code
  | .loop c => c
  | c => c
def lxIn : Code → Code
  | .block _ c => c
  | c => c
noncomputable def rnB (n : Nat) : Code := lvSuf n ((Tryz.f8.body).getD .skip)
/-- A round's text. -/
noncomputable def rnI (n : Nat) : Code := lvSuf n (lxIn (lvFst (lxSnd (lxLoop (lxIn (lxSnd (lvFst (rnB 5))))))))
abbrev Box2N (A : Nat) (cs : Array Value) (B : Nat) (ds : Array Value) (W : World) : Prop := BoxB A cs W ∧ BoxB B ds W
/-- The slots that no round turns, and the round's number. -/
def kpL : List Nat := [0, 1, 2, 3, 4, 5, 6, 7, 8, 9, 20, 21, 22, 23, 24, 25, 26, 27, 28]
structure RnF (f : Nat → Value) (A B : Nat) (k t u : Int) : Prop where
  h1 : f 1 = .int .u64 t
  h2 : f 2 = .int .u64 u
  h3 : f 3 = .pointer (some ⟨B, 0, none⟩)
  h8 : f 8 = .pointer (some ⟨A, 0, none⟩)
  h9 : f 9 = .int .i64 k
def Rn1 (f : Nat → Value) : Prop := f 10 = .slice none 0 0 ∧ f 11 = .int .i64 1
def Rn2 (f : Nat → Value) : Prop := Rn1 f ∧ f 12 = .bool false ∧ f 13 = .int .i64 1
def Rn3 (f : Nat → Value) : Prop := Rn2 f ∧ f 14 = .slice none 0 0 ∧ f 15 = .int .i64 1
def Rn4 (f : Nat → Value) : Prop := Rn3 f ∧ f 16 = .int .i64 0 ∧ f 17 = .int .i64 1
def Rn5 (f : Nat → Value) : Prop := Rn4 f ∧ f 18 = .slice none 0 0 ∧ f 19 = .int .i64 1
/-- What lies while IndexNone runs. -/
structure RnW (A B p : Nat) (fn : Fn) (vv uv sv : Value) (W : World) : Prop where
  boxA : BoxB A #[.pointer none, .pointer (some ⟨p, 0, none⟩)] W
  boxB : BoxB B (fn.enc vv uv sv) W
  none_ : W.cell? ⟨p, 0, none⟩ = some (.string ⟨#[]⟩)
section
variable {A B p : Nat} {fn : Fn} {vv uv sv : Value} {W W' : World}
theorem RnW.fr (h : RnW A B p fn vv uv sv W) (hf : Fr N0 W W') : RnW A B p fn vv uv sv W' := ⟨boxB_keep hf id h.boxA, boxB_keep hf id h.boxB, hf.cell id h.none_⟩
def elemN (p : Nat) (k : Int) : Value := if k = 0 then .pointer none else .pointer (some ⟨p, 0, none⟩)
end

end Go.Proofs.YtefepfiijoafbaaGreat
