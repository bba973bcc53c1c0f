/- Count by program and document; the document's Node. Edges by program and document. A region that draws its order, walked once, in the class of worlds that meet S: its callees hand back values and keep S. On the kit's theorem over whatever class (Derived.Deep.Quiet). -/
import Derived.Deep.QuietTactic
import Derived.Test.YtefepfiijoafbaaGreatQIEdges
import Derived.Test.YtefepfiijoafbaaGreatQXBack2
import Derived.Test.YtefepfiijoafbaaGreatQLists
import Derived.Test.YtefepfiijoafbaaGreatQBS
namespace Go.Proofs.YtefepfiijoafbaaGreat
open Go.RowKit Go.Shelf Go.Maps Go.Sort
attribute [local go_sem] Oper.semAt_some
attribute [local irreducible] wpQuiet
set_option linter.unusedVariables false
set_option linter.unusedSimpArgs false

/-- The nodes that have this one as a value, rising. -/
structure BacksAre (l : PL) (t u : Int) (bs : List Int) : Prop where
  rises : RisesBy id bs
  mem : ∀ x, x ∈ bs ↔ (haveAt l t x).any (eqVal (nodeV u)) = true
theorem NewInts.are {W : World} {P : Int → Prop} {e : Ending} {w' : World} (h : NewInts W P e w') {bs : List Int} (h1 : RisesBy id bs) (h2 : ∀ u, u ∈ bs ↔ P u) : ∃ a c, e = .returned (.slice a bs.length c) ∧ w'.ownsRow W.heap.size 33 1 (.slice a bs.length c) bs.length (bs.map (Value.int .u64)) ∧ Fr N0 W w' := by
  obtain ⟨v, xs, rfl, hr, g1, g2, hf⟩ := h
  obtain rfl := rises_unique g1 h1 fun x => (g2 x).trans (h2 x).symm
  obtain ⟨a, c, rfl⟩ := row_form hr
  exact ⟨a, c, rfl, hr, hf⟩
theorem BacksAre.wf {l : PL} {N : Nat} {t u : Int} {bs : List Int} (h : BacksAre l t u bs) (hl : l.AtOk N) : ∀ x ∈ bs, (Lit.int .u64 x).wf = true := fun x hx => (haveAt_ok hl t).key x fun e => by
  have := (h.mem x).1 hx
  rw [e] at this; simp at this
section
variable (W : World) (R : Nat → Prop) (p : Nat) (l : PL) (N : Nat) (h : IsPL W R p l) (hl : l.AtOk N) (hN : N ≤ 8000000000) (t u : Int) (hu : (Lit.int .u64 u).wf = true) (bs : List Int) (hb : BacksAre l t u bs) (back : Bool)
include h hl hN hu hb
end
section
variable (W : World) (p : Nat) (l : PL) (a : Option Addr) (bc off cap N : Nat) (h : XRead W p l a bc off cap) (hl : l.AtOk N) (hN : N ≤ 900000000) (hrs : RisesBy Cm.time l.commits) (t u : Int) (bs : List Int) (hb : BacksAre l t u bs) (back : Bool)
include h hl hN hrs hb
end
end Go.Proofs.YtefepfiijoafbaaGreat
namespace Go.Proofs.YtefepfiijoafbaaGreat
open Go.RowKit Go.Shelf Go.Maps Go.Sort
attribute [local go_sem] Oper.semAt_some
attribute [local irreducible] wpQuiet
set_option linter.unusedVariables false
set_option linter.unusedSimpArgs false

/-- Numbers and a code are told. -/
def NumsE (W : World) (xs : List Int) (E : Int) (e : Ending) (w' : World) : Prop := ∃ v b, e = .returned (.tuple #[v, .int .i64 E]) ∧ Ints .u64 w' b v xs ∧ Fr N0 W w'
theorem numsE_row {W w' : World} {xs : List Int} {v : Value} {base : Nat} {E : Int} (h : w'.ownsRow base 33 1 v xs.length (xs.map (Value.int .u64))) (hw : ∀ x ∈ xs, (Lit.int .u64 x).wf = true) (hf : Fr N0 W w') : NumsE W xs E (.returned (.tuple #[v, .int .i64 E])) w' := by
  obtain ⟨b, -, hI⟩ := ints_rowH h hw
  exact ⟨v, b, rfl, hI, hf⟩
section
variable (W : World) (R : Nat → Prop) (p : Nat) (l : PL) (N : Nat) (h : IsPL W R p l) (hl : l.AtOk N) (hN : N ≤ 8000000000) (t u : Int)
include h hl
include hN
end
section
variable (W : World) (p : Nat) (l : PL) (a : Option Addr) (bc off cap N : Nat) (h : XRead W p l a bc off cap) (hl : l.AtOk N) (hN : N ≤ 900000000) (hrs : RisesBy Cm.time l.commits) (t u : Int) (bs : List Int) (hb : BacksAre l t u bs) (back : Bool)
include h hl hN hrs hb
end
end Go.Proofs.YtefepfiijoafbaaGreat
namespace Go.Proofs.YtefepfiijoafbaaGreat
open Go.RowKit Go.Shelf
set_option linter.unusedVariables false

/-- A world that meets S. -/
structure InS (S : World → Prop) where
  w : World
  h : S w

theorem wp_region_inS {P : Program} {id : Nat} {Q : Exit → Act → World → Prop} {a : Act} {w : World} {l : List Oper} (S : World → Prop) (hm : P.follows .mixedOrders = true) (hB : Region.lexB .any l.toArray = true) (hS : S w.drew)
    (h : ∀ _ : Nonempty (InS S), wpQuiet P l.toArray (fun w' => ∃ p : InS S, w' = p.w) (fun a' => ∀ w', (∃ p : InS S, w' = p.w) → Q .normal a' w') l a) : (Code.region id l.toArray true).wp P Q a w :=
  wp_region_quiet (C := fun w' => ∃ p : InS S, w' = p.w) hm hB ⟨⟨_, hS⟩, rfl⟩ (by simpa using h ⟨⟨_, hS⟩⟩)

/-- A class of worlds that holds of W and bears what lays and changes nothing that lay. -/
structure Kept (S : World → Prop) (W : World) : Prop where
  now : S W
  keep : ∀ A B, Fr N0 A B → S A → S B
theorem kept_start {W0 W : World} (h : Fr N0 W0 W) : Kept (fun W' => Fr N0 W0 W') W := ⟨h, fun _ _ hf h => h.then0 hf⟩
theorem wp_region_kept {P : Program} {id : Nat} {Q : Exit → Act → World → Prop} {a : Act} {w : World} {l : List Oper} {S : World → Prop} (k : Kept S w) (hm : P.follows .mixedOrders = true) (hB : Region.lexB .any l.toArray = true)
    (h : ∀ _ : Nonempty (InS S), wpQuiet P l.toArray (fun w' => ∃ p : InS S, w' = p.w) (fun a' => ∀ w', (∃ p : InS S, w' = p.w) → Q .normal a' w') l a) : (Code.region id l.toArray true).wp P Q a w :=
  wp_region_inS S hm hB (k.keep _ _ ((Fr.refl _ _).drew) k.now) h
theorem kept_open {S : World → Prop} {W : World} (k : Kept S W) : ∃ S', Kept S' W ∧ (∀ x : InS S', S x.w) ∧ ∀ w, S' w → S w := ⟨S, k, fun x => x.h, fun _ h => h⟩
end Go.Proofs.YtefepfiijoafbaaGreat
