/- IndexParts, plainly: lists to which commits were added; how the answers' lengths go together. IndexParts: the law's small find, asked of a list of numbers. IndexParts, its regions: the two lists are made. IndexParts: the commits are added to both lists. IndexParts: the loop over the commits. IndexParts: what is found. -/
import Derived.Deep.DrawnRows
import Derived.Deep.RegionHeld3
import Derived.Test.YtefepfiijoafbaaGreatQFndE
import Derived.Test.YtefepfiijoafbaaGreatQLxO
import Derived.Test.YtefepfiijoafbaaGreatQValO
import Derived.Test.YtefepfiijoafbaaGreatQFindK
import Derived.Test.YtefepfiijoafbaaGreatQLy1
import Derived.Test.YtefepfiijoafbaaGreatQLy4
import Derived.Test.YtefepfiijoafbaaGreatQArgC
import Derived.Test.YtefepfiijoafbaaGreatQLyN
namespace Go.Proofs.YtefepfiijoafbaaGreat
set_option linter.unusedVariables false
set_option linter.unusedSimpArgs false

theorem wf_u64 {a : Int} (h : 0 ≤ a ∧ a < 18446744073709551616) : (Lit.int .u64 a).wf = true := by
  have : (decide (IntKind.u64.min ≤ a) && decide (a ≤ IntKind.u64.max)) = true := by
    have h1 : IntKind.u64.min = 0 := by decide
    have h2 : IntKind.u64.max = 18446744073709551615 := by decide
    rw [h1, h2, Bool.and_eq_true, decide_eq_true_eq, decide_eq_true_eq]; omega
  exact this
theorem fitE_zero {s : Sch} {x : Wr} (h : fitE s x = 0) : trMay x = 0 ∧ x.pred = s.pred ∧ x.val.k = s.ty := by
  unfold fitE at h
  split at h
  · contradiction
  · split at h
    · contradiction
    · split at h
      · cases h
      · split at h
        · cases h
        · rename_i h2 h3 h4
          exact ⟨Classical.not_not.1 h2, Classical.not_not.1 h3, Classical.not_not.1 h4⟩
theorem trMay_val {x : Wr} (h : trMay x = 0) : valMay x.val = true := by
  unfold trMay at h
  split at h
  · cases h
  · split at h
    · cases h
    · split at h
      · cases h
      · rename_i h3; simpa using h3
theorem firstNZ_all {L : List Int} (h : firstNZ L = 0) : ∀ x ∈ L, x = 0 := by
  induction L with
  | nil => simp
  | cons y L ih =>
    unfold firstNZ at h
    split at h
    · rename_i hy
      intro x hx
      rcases List.mem_cons.1 hx with rfl | hx
      · exact hy
      · exact ih h x hx
    · rename_i hy; exact absurd h hy
theorem addErr_zero {l : PL} {c : Cm} (h : addErr l c = 0) : c.writes.length ≤ 256 ∧ ∀ x ∈ c.writes, fitE l.s x = 0 := by
  unfold addErr at h
  split at h
  · cases h
  · rename_i h0
    split at h
    · rename_i h1; exact absurd h h1
    · rename_i h1
      refine ⟨by
        have : ¬ 256 < c.writes.length := fun h => h0 (.inr (.inr h))
        omega, fun x hx => firstNZ_all (Classical.not_not.1 h1) _ (List.mem_map_of_mem hx)⟩

/-- A list of a schema to which commits were added, whatever they were. -/
structure Built (s : Sch) (l : PL) (N : Nat) : Prop where
  sch : l.s = s
  marked : l.marked = 0
  fine : l.Fine s.pred N
  fits : ∀ c ∈ l.commits, ∀ x ∈ c.writes, fitE s x = 0 ∧ x.ok
theorem Built.new {s : Sch} (h : schMay s = 0) : Built s { s := s } 0 where
  sch := rfl
  marked := rfl
  fine := ⟨⟨List.Pairwise.nil, List.Pairwise.nil, fun c h => (by cases h)⟩, rfl, h, fun t h => (by cases h), Nat.le_refl _, Nat.le_refl _, fun c h => (by cases h)⟩
  fits := fun c h => by cases h
theorem Built.mono {s : Sch} {l : PL} {N M : Nat} (h : Built s l N) (hM : N ≤ M) : Built s l M := ⟨h.sch, h.marked, h.fine.mono hM, h.fits⟩
theorem Built.add {s : Sch} {l : PL} {N : Nat} (h : Built s l N) (c : Cm) (ht : (Lit.int .u64 c.time).wf = true) (hw : ∀ x ∈ c.writes, x.ok) : Built s (addPL l c).1 (N + 1) := by
  unfold addPL
  split
  · rename_i h0
    obtain ⟨h1, h2⟩ := addErr_zero h0
    refine ⟨h.sch, h.marked, addIn_fine h.fine h0 ht h1 fun y hy => (hw y hy).wf, fun d hd x hx => ?_⟩
    rcases insBy_mem.1 hd with rfl | hd
    · exact ⟨h.sch ▸ h2 x hx, hw x hx⟩
    · exact h.fits d hd x hx
  · exact h.mono (Nat.le_succ _)
theorem wsOf_mem {cs : List Cm} {x : Wr} (h : x ∈ wsOf cs) : ∃ c ∈ cs, x ∈ c.writes := by
  unfold wsOf at h; exact List.mem_flatMap.1 h
theorem wsOf_len : ∀ {cs : List Cm}, (∀ c ∈ cs, c.writes.length ≤ 256) → (wsOf cs).length ≤ 256 * cs.length
  | [], _ => by simp [wsOf]
  | c :: cs, h => by
    have h1 := wsOf_len (cs := cs) fun d hd => h d (by simp [hd])
    have h2 := h c (by simp)
    unfold wsOf at h1 ⊢
    rw [List.flatMap_cons, List.length_append, List.length_cons]
    omega
theorem Built.at {s : Sch} {l : PL} {N : Nat} (h : Built s l N) : l.AtOk (256 * N) where
  pred := h.fine.size'
  ok := fun x hx => by
    obtain ⟨c, hc, hx⟩ := wsOf_mem hx
    obtain ⟨h1, h2⟩ := h.fits c hc x hx
    exact ⟨wf_u64 h2.1, trMay_val (fitE_zero h1).1, wf_u64 h2.2.2.2⟩
  len := Nat.le_trans (wsOf_len fun c hc => (h.fine.writes c hc).1) (Nat.mul_le_mul_left _ h.fine.commits)
  commits := by have := h.fine.commits; omega

theorem haveOf_val (list : Bool) (ws : List Wr) {u : Int} {v : Val} (h : v ∈ haveOf list ws u) : ∃ x ∈ ws, x.val = v := by
  revert h
  refine list_snoc (C := fun ws => v ∈ haveOf list ws u → ∃ x ∈ ws, x.val = v) (by simp [haveOf]) (fun ws x ih h => ?_) ws
  rw [haveOf_snoc] at h
  have hold : v ∈ haveOf list ws u → ∃ y ∈ ws ++ [x], y.val = v := fun h => by
    obtain ⟨y, hy, e⟩ := ih h
    exact ⟨y, List.mem_append_left _ hy, e⟩
  unfold hWrite at h
  by_cases e : u = x.uid
  · subst e
    rw [updV_same] at h
    rcases wrV_mem h with rfl | h
    · exact ⟨x, by simp, rfl⟩
    · exact hold h
  · rw [updV_other e] at h
    exact hold h
theorem haveOf_one (ws : List Wr) (u : Int) : (haveOf false ws u).length ≤ 1 := by
  refine list_snoc (C := fun ws => (haveOf false ws u).length ≤ 1) (by simp [haveOf]) (fun ws x ih => ?_) ws
  rw [haveOf_snoc]
  unfold hWrite
  by_cases e : u = x.uid
  · subst e
    rw [updV_same]
    unfold wrV
    split
    · split
      · exact Nat.le_trans (List.length_eraseIdx_le _ _) ih
      · exact ih
    · simp
  · rw [updV_other e]; exact ih
section
variable {s : Sch} {l : PL} {N : Nat} (h : Built s l N) (t : Int)
include h
theorem Built.val {u : Int} {v : Val} (hv : v ∈ haveAt l t u) : valMay v = true ∧ v.k = s.ty := by
  unfold haveAt at hv
  split at hv
  · cases hv
  · obtain ⟨x, hx, rfl⟩ := haveOf_val _ _ hv
    obtain ⟨c, hc, hx⟩ := wsOf_mem hx
    have h1 := fitE_zero (h.fits c ((List.takeWhile_sublist _).subset hc) x hx).1
    exact ⟨trMay_val h1.1, h1.2.2⟩
theorem Built.one (hs : s.list = false) (u : Int) : (haveAt l t u).length ≤ 1 := by
  unfold haveAt
  split
  · simp
  · rw [h.sch, hs]; exact haveOf_one _ _
end
/-- At most one value a node, and that a number. -/
def OneNum (H : Int → List Val) : Prop := ∀ u, H u = [] ∨ ∃ n, H u = [numV n]
section
variable {H : Int → List Val} (h1 : OneNum H) {A B C : List Int} (hA : RisesBy id A) (hB : RisesBy id B) (hC : RisesBy id C)
include h1 hA hB hC
end
theorem any_has {H : Int → List Val} {B : Int → List Int} {u : Int} : hasP H B false (-1) u ↔ anyP H (fun _ => true) u := by
  unfold hasP anyP
  rw [if_neg (by decide)]
  cases e : H u with
  | nil => simp
  | cons v vs => simp [manyIs]
end Go.Proofs.YtefepfiijoafbaaGreat
namespace Go.Proofs.YtefepfiijoafbaaGreat
open Go.RowKit Go.Shelf Go.Maps
attribute [local go_sem] Oper.semAt_some
attribute [local irreducible] wpQuiet
set_option linter.unusedVariables false
set_option linter.unusedSimpArgs false

/-- A slice of just these, rising: what is told of it without the heap. -/
def LenIs (P : Int → Prop) (N : Nat) (v : Value) : Prop := ∃ a c, ∃ xs : List Int, v = .slice a xs.length c ∧ RisesBy id xs ∧ (∀ u, u ∈ xs ↔ P u) ∧ xs.length ≤ N
def PtPost (W : World) (N : Nat) (P : Int → Prop) (e : Ending) (w' : World) : Prop := (∃ v, e = .returned v ∧ LenIs P N v) ∧ Fr N0 W w'
set_option maxRecDepth 100000 in
set_option maxHeartbeats 2000000 in
theorem lxFind_any (W : World) (R : Nat → Prop) (p : Nat) (l : PL) (h : IsPL W R p l) (hs : 0 < l.s.pred.size) (k t : Int) (va : Option Addr) (vn vc : Nat) (P : Int → Prop)
    (hF : ∀ w1, Fr N0 W w1 → Calls Tryz.prog 41 #[vP p, .agg #[.int .u8 k, .string l.s.pred, .bool false, .slice va vn vc, .slice none 0 0, .slice none 0 0], .int .u64 t] w1 fun e w' => ∃ v, e = .returned (.tuple #[v, .int .i64 0]) ∧ NewInts w1 P (.returned v) w') :
    Calls Tryz.prog 32 #[vP p, .int .u8 k, .int .u64 t, .slice va vn vc] W (NewInts W P) := by
  have hsc := schema_any W R p l h hs
  have hF' := fun w1 (hf : Fr N0 W w1) => (hF w1 hf).mono fun e w' hh => (show ∃ v, e = .returned (.tuple #[v, .int .i64 0]) ∧ NewInts W P (.returned v) w' from by obtain ⟨v, h1, h2⟩ := hh; exact ⟨v, h1, NewInts.from h2 hf⟩)
  obtain ⟨Q, hQ⟩ : ∃ Q, NewInts W P = Q := ⟨_, rfl⟩
  simp only [hQ] at hF' ⊢
  have HSC := Lib.hid hsc; have HF := Lib.hid hF'
  clear hsc hF hF' hQ h hs
  obtain ⟨⟨sp, st, sl, se, sm, so, sr, sc⟩, mk, ts, cms⟩ := l
  simp only [Sch.enc] at *
  have hfs := field_sch
  go_enter Tryz.func32, Tryz.ntmps32
  go_wp2_with fail
  refine HSC.out.mono ?_
  rintro e w1 ⟨rfl, hf1⟩
  go_wp2_with fail
  refine (HF.out _ hf1).mono ?_
  rintro e w2 ⟨v, rfl, hp⟩
  have HP := Lib.hid hp
  clear hp HF HSC hf1
  go_wp2_with fail
  (try go_ret)
  exact HP.out
/-- A list of numbers, built of commits. -/
structure AgeL (W : World) (R : Nat → Prop) (p : Nat) (l : PL) (N : Nat) : Prop where
  pl : IsPL W R p l
  lt : ∀ k, R k → k < W.heap.size
  built : Built cAge l N
  n : N ≤ 1000
theorem AgeL.fr {W W' : World} {R : Nat → Prop} {p : Nat} {l : PL} {N : Nat} (h : AgeL W R p l N) (hf : Fr N0 W W') : AgeL W' R p l N :=
  ⟨h.pl.fr hf fun _ _ => id, fun k hk => Nat.lt_of_lt_of_le (h.lt k hk) hf.size, h.built, h.n⟩
theorem newInts_len {W w' : World} {P P' : Int → Prop} {e : Ending} {H : Int → List Val} {ks : List Int} (h : NewInts W P e w') (hP : ∀ u, P u ↔ P' u) (hk : NodesOf H ks) (hn : ∀ u, P' u → H u ≠ []) {N : Nat} (hN : ks.length ≤ N) : PtPost W N P' e w' := by
  obtain ⟨v, xs, he, h1, h2, h3, h4⟩ := h
  have hm := fun u => (h3 u).trans (hP u)
  have hs : ∃ a c, v = .slice a xs.length c := by
    obtain ⟨a, c, e⟩ := row_form h1
    exact ⟨a, c, e⟩
  obtain ⟨a, c, rfl⟩ := hs
  refine ⟨⟨_, he, a, c, xs, rfl, h2, hm, Nat.le_trans ?_ hN⟩, h4⟩
  exact (nodup_rises h2).length_le_of_subset fun u hu => (hk.mem u).2 (hn u ((hm u).1 hu))
section
variable {W : World} {R : Nat → Prop} {p : Nat} {l : PL} {N : Nat} (h : AgeL W R p l N) (t a b : Int)
theorem may1 (k : Int) (hk : k = 6 ∨ k = 7 ∨ k = 8 ∨ k = 9) : fnFits cAge ⟨k, bAge, false, [numV a], 0, 0⟩ = 0 := by
  have ha : allV 2 [numV a] = true := by
    simp only [allV, List.any_cons, List.any_nil, may_num]; rfl
  have h1 : fnMay ⟨k, bAge, false, [numV a], 0, 0⟩ = 0 := by
    rcases hk with rfl | rfl | rfl | rfl <;> simp [fnMay, mayR, ok_age, valsOk, valsR, ha]
  unfold fnFits
  rw [if_neg (by simp [h1]), if_neg (by simp [may_age]), if_neg (by simp [cAge])]
  rcases hk with rfl | rfl | rfl | rfl <;> simp [fitR, fitOk, fitIx, cAge]
theorem may4 : fnFits cAge ⟨2, bAge, false, [], 0, 0⟩ = 0 := by
  have h1 : fnMay ⟨2, bAge, false, [], 0, 0⟩ = 0 := by simp [fnMay, mayR, ok_age, valsOk, valsR]
  unfold fnFits
  rw [if_neg (by simp [h1]), if_neg (by simp [may_age]), if_neg (by simp [cAge])]
  simp [fitR, fitOk, fitIx, cAge]
include h
/-- How many nodes there are at most. -/
theorem AgeL.nodes {ks : List Int} (hk : NodesOf (haveAt l t) ks) : ks.length ≤ 256 * N := by
  have h1 := trs_len h.built.at t hk
  refine Nat.le_trans ?_ h1
  unfold trsOf
  rw [List.length_flatMap]
  have : ∀ L : List Int, (∀ u ∈ L, haveAt l t u ≠ []) → L.length ≤ (L.map fun u => ((haveAt l t u).map fun v => (u, v)).length).sum := by
    intro L
    induction L with
    | nil => simp
    | cons x L ih =>
      intro hx
      have h2 := ih fun u hu => hx u (by simp [hu])
      have h3 := hx x (by simp)
      have h4 : 0 < (haveAt l t x).length := List.length_pos_iff.2 h3
      simp only [List.map_cons, List.sum_cons, List.length_cons, List.length_map] at h2 ⊢
      omega
  exact this ks fun u hu => (hk.mem u).1 hu
theorem AgeL.pre {ks : List Int} (hk : NodesOf (haveAt l t) ks) {fn : Fn} {vv uv sv : Value} {c : Nat} (hf : FnAt W c fn vv uv sv) : FindPre W R p l (256 * N) t ks fn vv uv sv c :=
  ⟨h.pl, h.lt, h.built.at, by have := h.n; omega, hk, hf⟩
theorem AgeL.ask (k : Int) (vals : List Val) (va : Option Addr) (vn vc : Nat) (P P' : Int → Prop) (hfit : fnFits cAge ⟨k, bAge, false, vals, 0, 0⟩ = 0) (hPP : ∀ u, P u ↔ P' u) (hne : ∀ u, P' u → haveAt l t u ≠ [])
    (hF : ∀ w1, Fr N0 W w1 → Calls Tryz.prog 41 #[vP p, .agg #[.int .u8 k, .string bAge, .bool false, .slice va vn vc, .slice none 0 0, .slice none 0 0], .int .u64 t] w1 (FindPost w1 (fnFits l.s ⟨k, bAge, false, vals, 0, 0⟩) (t < l.marked) P))
    (ht : 0 ≤ t) :
    Calls Tryz.prog 32 #[vP p, .int .u8 k, .int .u64 t, .slice va vn vc] W (PtPost W (256 * N) P') := by
  obtain ⟨ks, hk⟩ := exists_nodes l t
  refine (lxFind_any W R p l h.pl h.built.at.pred k t va vn vc P fun w1 hf => ?_).mono fun e w' hh => newInts_len hh hPP hk hne (h.nodes t hk)
  have hsp : l.s.pred = bAge := by rw [h.built.sch]; rfl
  rw [hsp]
  refine (hF w1 hf).mono fun e w' hq => ?_
  rw [h.built.sch] at hq
  exact hq.2.2 hfit (by rw [h.built.marked]; omega)
omit h in
theorem any_ne {l : PL} {t : Int} {p : Val → Bool} {u : Int} (hh : anyP (haveAt l t) p u) : haveAt l t u ≠ [] := fun e => by
  unfold anyP at hh; rw [e] at hh; simp at hh
theorem AgeL.has (ht : 0 ≤ t) : Calls Tryz.prog 32 #[vP p, .int .u8 2, .int .u64 t, .slice none 0 0] W (PtPost W (256 * N) (anyP (haveAt l t) fun _ => true)) := by
  obtain ⟨ks, hk⟩ := exists_nodes l t
  refine h.ask t 2 [] _ _ _ _ _ may4 (fun u => any_has (B := lookB (trsOf (haveAt l t) ks))) (fun u => any_ne) (fun w1 hf => ?_) ht
  exact ifind_has ((h.fr hf).pre t hk (c := 0) (fn := ⟨2, bAge, false, [], 0, 0⟩) ⟨RowsK.nil _ _ _ _, fun x hx => (by cases hx), by decide, ⟨_, _, rfl⟩, ⟨_, _, rfl⟩⟩) rfl
theorem AgeL.cmp (ht : 0 ≤ t) (k : Int) (gf : FuncId) (c : Int → Int → Bool) (hg : ∀ a b W, Calls Tryz.prog gf #[.int .i64 a, .int .i64 b] W fun e w' => e = .returned (.bool (c a b)) ∧ w' = W)
    (eg : ∀ args w, (callFunc gf args).run Tryz.prog w = .ok (.enter gf args) w) (hk : (k, gf) ∈ [((6 : Int), 171), (7, 172), (8, 173), (9, 174)]) (S : Nat) (hS : W.heap[S]? = some (.cells ([numV a].flatMap Val.enc).toArray 57 (0, 0))) :
    Calls Tryz.prog 32 #[vP p, .int .u8 k, .int .u64 t, .slice (some ⟨S, 0, none⟩) 1 1] W (PtPost W (256 * N) (anyP (haveAt l t) (cmpP c (numV a)))) := by
  obtain ⟨ks, hks⟩ := exists_nodes l t
  have hk' : k = 6 ∨ k = 7 ∨ k = 8 ∨ k = 9 := by
    simp only [List.mem_cons, Prod.mk.injEq, List.not_mem_nil, or_false] at hk
    rcases hk with ⟨e, -⟩ | ⟨e, -⟩ | ⟨e, -⟩ | ⟨e, -⟩ <;> simp [e]
  refine h.ask t k [numV a] _ _ _ _ _ (may1 a k hk') (fun u => Iff.rfl) (fun u => any_ne) (fun w1 hf => ?_) ht
  exact ifind_cmp ((h.fr hf).pre t hks (c := S) (fn := ⟨k, bAge, false, [numV a], 0, 0⟩) ⟨rowsK_of_block val_len [numV a] ((hf.at id (lt_of_block hS)).trans hS) (by simp) (by simp), fun x hx => (by simp at hx; subst hx; exact Int.le_refl 0), by simp, ⟨_, _, rfl⟩, ⟨_, _, rfl⟩⟩) (numV a) rfl gf c hg eg hk
end
end Go.Proofs.YtefepfiijoafbaaGreat
namespace Go.Proofs.YtefepfiijoafbaaGreat
open Go.RowKit Go.Shelf Go.Maps
attribute [local go_sem] Oper.semAt_some
attribute [local go_sem ↓] Go.wp_at_zero Go.wp_at_succ
attribute [local irreducible] wpQuiet
set_option linter.unusedVariables false
set_option linter.unusedSimpArgs false

def Kp (l : List Nat) (f f' : Nat → Value) : Prop := ∀ i ∈ l, f' i = f i
theorem kp_mk {l : List Nat} {f f' : Nat → Value} (h : l.map f' = l.map f) : Kp l f f' := List.map_inj_left.1 h
theorem Kp.at {l : List Nat} {f f' : Nat → Value} (h : Kp l f f') (i : Nat) (hi : i ∈ l) : f' i = f i := h i hi
theorem Kp.trans {l m : List Nat} {f f' f2 : Nat → Value} (h : Kp l f f') (g : Kp m f' f2) (hm : ∀ i ∈ l, i ∈ m) : Kp l f f2 := fun i hi => (g i (hm i hi)).trans (h i hi)
def cFr2 : Sch := ⟨bFri, 4, true, false, false, false, true, false⟩
/-- The small boxes: the result's, the time's. -/
structure PtB (w : World) (BR B5 : Nat) (t : Int) (W : World) : Prop where
  res : W.heap[BR]? = some (.cells #[.bool false] 4 (0, 0))
  b5 : W.heap[B5]? = some (.cells #[.int .u64 t] 33 (0, 0))
  new : w.heap.size ≤ BR ∧ w.heap.size ≤ B5 ∧ BR ≠ B5
  fr : Fr N0 w W
theorem PtB.fr' {w W W' : World} {BR B5 : Nat} {t : Int} (h : PtB w BR B5 t W) (hf : Fr N0 W W') : PtB w BR B5 t W' :=
  ⟨(hf.at id (lt_of_block h.res)).trans h.res, (hf.at id (lt_of_block h.b5)).trans h.b5, h.new, h.fr.then0 hf⟩
theorem PtB.frT {w W W' : World} {BR B5 : Nat} {t : Int} {T : Nat → Prop} (h : PtB w BR B5 t W) (hf : Fr T W W') (h1 : ¬ T BR) (h2 : ¬ T B5) (h3 : ∀ k, T k → w.heap.size ≤ k) : PtB w BR B5 t W' :=
  ⟨(hf.at h1 (lt_of_block h.res)).trans h.res, (hf.at h2 (lt_of_block h.b5)).trans h.b5, h.new, h.fr.trans hf fun k hk => .inr (h3 k hk)⟩

end Go.Proofs.YtefepfiijoafbaaGreat
namespace Go.Proofs.YtefepfiijoafbaaGreat
open Go.RowKit Go.Shelf Go.Maps
attribute [local go_sem] Oper.semAt_some
attribute [local go_sem ↓] Go.wp_at_zero Go.wp_at_succ
attribute [local irreducible] wpQuiet
set_option linter.unusedVariables false
set_option linter.unusedSimpArgs false

/-- What lies between the rounds: the two lists, apart, and the small boxes. -/
structure PtS (w : World) (BR B5 B11 p1 p2 : Nat) (R1 R2 : Nat → Prop) (l m : PL) (n : Nat) (t : Int) (W : World) : Prop where
  ll : Lxl w W R1 p1 l
  mm : Lxl w W R2 p2 m
  ap : ∀ k, R1 k → ¬ R2 k
  box : PtB w BR B5 t W
  b11 : W.heap[B11]? = some (.cells #[vP p2] 51 (0, 0))
  new11 : w.heap.size ≤ B11 ∧ B11 ≠ BR ∧ B11 ≠ B5
  out : ∀ k, (k = BR ∨ k = B5 ∨ k = B11) → ¬ R1 k ∧ ¬ R2 k
  bl : Built cAge l n
  bm : Built cFr2 m n
section
variable {w W : World} {BR B5 B11 p1 p2 : Nat} {R1 R2 : Nat → Prop} {l m : PL} {n : Nat} {t : Int}
theorem PtS.fr (h : PtS w BR B5 B11 p1 p2 R1 R2 l m n t W) {W' : World} (hf : Fr N0 W W') : PtS w BR B5 B11 p1 p2 R1 R2 l m n t W' :=
  ⟨h.ll.fr hf, h.mm.fr hf, h.ap, h.box.fr' hf, (hf.at id (lt_of_block h.b11)).trans h.b11, h.new11, h.out, h.bl, h.bm⟩
end
end Go.Proofs.YtefepfiijoafbaaGreat
namespace Go.Proofs.YtefepfiijoafbaaGreat
open Go.RowKit Go.Shelf Go.Maps
set_option linter.unusedVariables false
set_option linter.unusedSimpArgs false

theorem wp_inBP {P : Program} {c : Code} {n : Nat} {K : Act → World → Prop} {Q : Exit → Act → World → Prop} {a : Act} {W : World} (h : Code.wp P c (Exit.then K (Exit.inBlock n (Exit.then K Q))) a W) : Code.wp P c (Exit.inBlock n (Exit.then K Q)) a W :=
  Code.wp_mono (Q := Exit.then K (Exit.inBlock n (Exit.then K Q))) (fun e a w h => by cases e <;> exact h) h
theorem frA_get (n : Nat) (f : Nat → Value) (i : Nat) (hi : i < n) (d : Value) : (frA n f).tmps.getD i d = f i := by
  simp [frA, hi]
end Go.Proofs.YtefepfiijoafbaaGreat
namespace Go.Proofs.YtefepfiijoafbaaGreat
open Go.RowKit Go.Shelf Go.Maps
attribute [local go_sem] Oper.semAt_some
attribute [local go_sem ↓] Go.wp_at_zero Go.wp_at_succ
attribute [local irreducible] wpQuiet
set_option linter.unusedVariables false
set_option linter.unusedSimpArgs false

/-- A question's answer, whatever the numbers' block. -/
def AskP (W : World) (p : Nat) (k t : Int) (xs : List Val) (N : Nat) (P : Int → Prop) : Prop := ∀ (W' : World) (S : Nat), Fr N0 W W' → W'.heap[S]? = some (.cells (xs.flatMap Val.enc).toArray 57 (0, 0)) →
  Calls Tryz.prog 32 #[vP p, .int .u8 k, .int .u64 t, .slice (some ⟨S, 0, none⟩) xs.length xs.length] W' (PtPost W' N P)
section
variable {W : World} {R : Nat → Prop} {p : Nat} {l : PL} {N : Nat} (h : AgeL W R p l N) (t a b : Int) (ht : 0 ≤ t)
include h ht
end
theorem AskP.fr {W W' : World} {p : Nat} {k t : Int} {xs : List Val} {N : Nat} {P : Int → Prop} (h : AskP W p k t xs N P) (hf : Fr N0 W W') : AskP W' p k t xs N P := fun W2 S h2 hS => h W2 S (hf.then0 h2) hS
end Go.Proofs.YtefepfiijoafbaaGreat
