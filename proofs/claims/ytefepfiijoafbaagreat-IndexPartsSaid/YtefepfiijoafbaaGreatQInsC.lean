/- What slices.Insert's proofs share: copy at whatever element size; rows as blocks. slices.Insert of one element at 35: where there is room, where there is none, at the end. (Printed by mkins.py.) slices.Insert of one element at 36: where there is room, where there is none, at the end. (Printed by mkins.py.) -/
import Derived.Lib.Overlaps
import Derived.Laws.CopyRow
import Derived.Laws.IdiomCopy
import Derived.Lib.SliceRun
import Derived.Lib.AppendZerosOnto
import Derived.Laws.Externs
import Derived.Deep.RegionLaw
import Derived.Shelf.RegionOpenPlain
import Derived.Laws.AppendOwnNone
import Derived.Test.YtefepfiijoafbaaGreatQBS
namespace Go.Proofs.YtefepfiijoafbaaGreat
open Go.RowKit Go.Shelf Go.Lib
set_option linter.unusedVariables false
set_option linter.unusedSimpArgs false

theorem run_copy_rowK {P : Program} (w : World) (dT sT ty elem : TypeId) (k g o dLen dCap : Nat) (a : Addr) (sLen sCap m : Nat) (cur : Array Value) (t : TypeId) (cs : List Value)
    (hu : P.underlying dT = some (.slice elem)) (hs : (P.info? elem).map (·.size) = some k)
    (hg : w.heap[g]? = some (.cells cur t (0, 0))) (hm : m = Nat.min sLen dLen) (hn : cs.length = m * k)
    (hsrc : ∀ j v, cs[j]? = some v → w.cell? (a.add j) = some v) (hfit : o + cs.length ≤ cur.size) (h1 : ∀ v ∈ cs, v.oneCell' = true) :
    (Builtin.copy_ #[dT, sT] ty #[.slice (some ⟨g, o, none⟩) dLen dCap, .slice (some a) sLen sCap]).run P w =
      .ok (goInt m) (w.setRow g (cur.toList.take o ++ cs ++ cur.toList.drop (o + cs.length)).toArray) := by
  have hl := run_loadCells_list (P := P) w a cs hsrc
  have hst := run_storeCells_at P g o t cs 0 cur w hg (by simpa using hfit) h1
  cases hq : P.info? elem with
  | none => simp [hq] at hs
  | some i =>
    have hi : i.size = k := by simpa [hq] using hs
    simp [Builtin.copy_, run_underlying hu, Builtin.lenOf, Builtin.firstCells, sizeOf, typeInfo, hq, hi, ← hm, ← hn, hl, hst]

theorem wpList_copy_run {P : Program} (w : World) {ops : Array Oper} {rest : List Oper} {o : Oper} {a : Act} {Q : Exit → Act → World → Prop} (hgd : o.guard = none) (d s : Operand) (t t' : TypeId)
    (ho : o.op = .call { callee := .builtin .copy, args := #[d, s], argTypes := #[t, t'] }) (v u : Value) (hd : a.eval d = v) (hs : a.eval s = u) {v' : Value} {w' : World}
    (hr : (Builtin.copy_ #[t, t'] o.type #[v, u]).run P w = .ok v' w') (h : wpList P ops Q rest (a.put o.dst v') w') : wpList P ops Q (o :: rest) a w := by
  refine wpList_plain hgd fun K hK => ?_
  unfold Oper.wp
  simp [execOp, ho, resolve, invoke, builtin, hd, hs, hr, Result.andThen]
  exact hK _ _ h
theorem step_copy_run {P : Program} {ops : Array Oper} {o : Oper} {a : Act} {w : World} {K : Act → World → Prop} {Q : Exit → Act → World → Prop} {E : Prop}
    (hg : o.guard = none) (d x : Operand) (dT sT : TypeId) (hop : o.op = Op.call { callee := Callee.builtin Builtin.copy, args := #[d, x], argTypes := #[dT, sT] })
    (v u : Value) (hd : a.eval d = v) (hx : a.eval x = u) {v' : Value} {w' : World} (hr : (Builtin.copy_ #[dT, sT] o.type #[v, u]).run P w = .ok v' w') (hK : K (a.put o.dst v') w') :
    if Region.wanted o (yielded ops a.tmps) = true then Oper.wp P o a w K Q else E := by
  have hw : Region.wanted o (yielded ops a.tmps) = true := by simp [Region.wanted, hg]
  rw [if_pos hw]
  unfold Oper.wp
  simp [execOp, hop, resolve, invoke, builtin, hd, hx, hr, Result.andThen]
  exact hK

theorem addr_add0 {b o k : Nat} : (⟨b, o, none⟩ : Addr).add k = ⟨b, o + k, none⟩ := by
  unfold Addr.add
  split
  · rename_i h; subst h; rfl
  · rfl
/-- A box that lies in a world, whole: its cells, and that none is frozen. -/
theorem box_cells {W : World} {B : Nat} {cs : Array Value} {t : TypeId} (h : W.heap[B]? = some (.cells cs t (0, 0))) : (∀ i, W.cell? ⟨B, i, none⟩ = cs[i]?) ∧ (∀ i, W.frozen? ⟨B, i, none⟩ = false) ∧ B < W.heap.size := by
  refine ⟨fun i => ?_, fun i => by simp [World.frozen?, h], lt_of_block h⟩
  show (match W.heap[B]? with
    | some (.cells c _ _) => if (none : Option _).isSome then none else c[i]?
    | _ => none) = _
  rw [h]; rfl
/-- A row's block set anew. -/
theorem fr_setRow (w : World) (g : Nat) (cs : Array Value) : Fr (fun j => j = g) w (w.setRow g cs) :=
  ⟨rfl, rfl, rfl, by simp [World.setRow], fun k hk _ => setRow_other w g k cs (fun e => hk e)⟩
theorem oneCells_flat {α : Type} {enc : α → List Value} (h : ∀ x, ∀ u ∈ enc x, u.oneCell' = true) (xs : List α) : ∀ u ∈ xs.flatMap enc, u.oneCell' = true := by
  intro u hu
  obtain ⟨x, -, hx⟩ := List.mem_flatMap.1 hu
  exact h x u hx
theorem flat_len {α : Type} {enc : α → List Value} {n : Nat} (hn : ∀ x, (enc x).length = n) : ∀ xs : List α, (xs.flatMap enc).length = xs.length * n
  | [] => by simp
  | x :: xs => by rw [List.flatMap_cons, List.length_append, hn, flat_len hn xs, List.length_cons, Nat.succ_mul, Nat.add_comm]
/-- What stands in the row behind both copies. -/
theorem ins_row {α : Type} {enc : α → List Value} {k : Nat} (hk : ∀ x, (enc x).length = k) (xs : List α) (x : α) (i : Nat) (hi : i ≤ xs.length) (cur : List Value) (hc : cur.take (xs.length * k) = xs.flatMap enc) (hlen : (xs.length + 1) * k ≤ cur.length) :
    ∀ cur1, cur.take ((i + 1) * k) ++ (xs.drop i).flatMap enc ++ cur.drop ((i + 1) * k + ((xs.drop i).flatMap enc).length) = cur1 →
    (cur1.take (i * k) ++ enc x ++ cur1.drop (i * k + (enc x).length)).take ((xs.length + 1) * k) = (xs.take i ++ x :: xs.drop i).flatMap enc := by
  rintro cur1 rfl
  have e1 : ((xs.drop i).flatMap enc).length = (xs.length - i) * k := by rw [flat_len hk, List.length_drop]
  have e2 : (xs.length - i) * k + (i + 1) * k = (xs.length + 1) * k := by rw [← Nat.add_mul]; congr 1; omega
  have e3 : i * k + k = (i + 1) * k := by rw [Nat.succ_mul]
  have e4 : i * k ≤ xs.length * k := Nat.mul_le_mul_right _ hi
  have e5 : (i + 1) * k ≤ cur.length := by omega
  have h0 : cur.take (i * k) = (xs.take i).flatMap enc := by
    have h6 : xs.flatMap enc = (xs.take i).flatMap enc ++ (xs.drop i).flatMap enc := by rw [← List.flatMap_append, List.take_append_drop]
    rw [show cur.take (i * k) = (cur.take (xs.length * k)).take (i * k) by rw [List.take_take, Nat.min_eq_left e4], hc, h6, List.take_left' (by rw [flat_len hk, List.length_take, Nat.min_eq_left hi])]
  have h1 : (cur.take ((i + 1) * k) ++ (xs.drop i).flatMap enc ++ cur.drop ((i + 1) * k + ((xs.drop i).flatMap enc).length)).take (i * k) = (xs.take i).flatMap enc := by
    rw [List.append_assoc, List.take_append_of_le_length (by rw [List.length_take]; omega), List.take_take, Nat.min_eq_left (by omega), h0]
  have h2 : (cur.take ((i + 1) * k) ++ (xs.drop i).flatMap enc ++ cur.drop ((i + 1) * k + ((xs.drop i).flatMap enc).length)).drop (i * k + (enc x).length) = (xs.drop i).flatMap enc ++ cur.drop ((i + 1) * k + ((xs.drop i).flatMap enc).length) := by
    rw [List.append_assoc, hk, e3, List.drop_left' (by rw [List.length_take]; omega)]
  rw [h1, h2, List.flatMap_append, List.flatMap_cons]
  rw [show (xs.take i).flatMap enc ++ enc x ++ ((xs.drop i).flatMap enc ++ cur.drop ((i + 1) * k + ((xs.drop i).flatMap enc).length)) = ((xs.take i).flatMap enc ++ (enc x ++ (xs.drop i).flatMap enc)) ++ cur.drop ((i + 1) * k + ((xs.drop i).flatMap enc).length) by simp only [List.append_assoc]]
  rw [List.take_left']
  rw [List.length_append, List.length_append, flat_len hk, List.length_take, Nat.min_eq_left hi, hk, e1]
  omega
/-- .. where the row is new: first the element, then what stood behind. -/
theorem ins_row2 {α : Type} {enc : α → List Value} {k : Nat} (hk : ∀ x, (enc x).length = k) (xs : List α) (x : α) (i : Nat) (hi : i ≤ xs.length) (cur : List Value) (hc : cur.take (i * k) = (xs.take i).flatMap enc) (hlen : (xs.length + 1) * k ≤ cur.length) :
    ∀ cur1, cur.take (i * k) ++ enc x ++ cur.drop (i * k + (enc x).length) = cur1 →
    (cur1.take ((i + 1) * k) ++ (xs.drop i).flatMap enc ++ cur1.drop ((i + 1) * k + ((xs.drop i).flatMap enc).length)).take ((xs.length + 1) * k) = (xs.take i ++ x :: xs.drop i).flatMap enc := by
  rintro cur1 rfl
  have e1 : ((xs.drop i).flatMap enc).length = (xs.length - i) * k := by rw [flat_len hk, List.length_drop]
  have e2 : (xs.length - i) * k + (i + 1) * k = (xs.length + 1) * k := by rw [← Nat.add_mul]; congr 1; omega
  have e3 : i * k + k = (i + 1) * k := by rw [Nat.succ_mul]
  have e4 : ((xs.take i).flatMap enc).length = i * k := by rw [flat_len hk, List.length_take, Nat.min_eq_left hi]
  have h1 : (cur.take (i * k) ++ enc x ++ cur.drop (i * k + (enc x).length)).take ((i + 1) * k) = (xs.take i).flatMap enc ++ enc x := by
    rw [hc, List.take_left' (by rw [List.length_append, e4, hk, e3])]
  rw [h1, List.flatMap_append, List.flatMap_cons]
  rw [show ((xs.take i).flatMap enc ++ enc x ++ (xs.drop i).flatMap enc) = ((xs.take i).flatMap enc ++ (enc x ++ (xs.drop i).flatMap enc)) by simp only [List.append_assoc]]
  rw [List.take_left']
  rw [List.length_append, List.length_append, e4, hk, e1]
  omega
end Go.Proofs.YtefepfiijoafbaaGreat
namespace Go.Proofs.YtefepfiijoafbaaGreat
open Go.RowKit Go.Shelf Go.Lib
attribute [local go_sem] Oper.semAt_some
set_option linter.unusedVariables false
set_option linter.unusedSimpArgs false
def enc4 (x : Int) : List Value := [.int .u64 x]
theorem ins4_info : (Tryz.prog.info? 33).map (fun i => (i.zero, i.size, i.bytes)) = some (some (.int .u64 0), 1, 8) := by kernel_rfl
theorem ins4_len (x : Int) : (enc4 x).length = 1 := rfl
theorem ins4_one (x : Int) : ∀ u ∈ enc4 x, u.oneCell' = true := by intro u hu; simp [enc4] at hu; subst hu; rfl

set_option maxRecDepth 100000 in
set_option maxHeartbeats 4000000 in
/-- There is room, and it is not the end. -/
theorem ins4_shift (w : World) (base g n cap i : Nat) (xs : List (Int)) (x : Int) (vb : Nat) (h : w.ownsRow base 33 1 (.slice (some ⟨g, 0, none⟩) n cap) n (xs.flatMap (enc4))) (hl : xs.length = n) (hi : i < n) (hroom : n + 1 ≤ cap) (hvb : w.heap[vb]? = some (.cells (enc4 x).toArray 33 (0, 0))) (hne : vb ≠ g) :
    Calls Tryz.prog 93 #[.slice (some ⟨g, 0, none⟩) n cap, .int .i64 i, .slice (some ⟨vb, 0, none⟩) 1 1] w fun e w' =>
      e = .returned (.slice (some ⟨g, 0, none⟩) (n + 1) cap) ∧ w'.ownsRow base 33 1 (.slice (some ⟨g, 0, none⟩) (n + 1) cap) (n + 1) ((xs.take i ++ x :: xs.drop i).flatMap (enc4)) ∧ Fr (fun j => j = g) w w' := by
  obtain ⟨cur, hbase, hg, hcm, hcs, htk⟩ : ∃ cur, base ≤ g ∧ w.heap[g]? = some (.cells cur 33 (0, 0)) ∧ cap ≤ maxLen ∧ cur.size = cap * 1 ∧ cur.toList.take (n * 1) = xs.flatMap (enc4) := by
    rcases h.2 with ⟨h', _⟩ | ⟨g', cap', cur, h', hb, hg, hnc, hcm, hcs, htake⟩
    · simp at h'
    · simp only [Value.slice.injEq, Option.some.injEq, Addr.mk.injEq, and_true, true_and] at h'
      obtain ⟨rfl, rfl⟩ := h'
      exact ⟨cur, hb, hg, hcm, hcs, htake⟩
  have hsz : (Tryz.prog.info? 33).map (·.size) = some 1 := by
    obtain ⟨i0, hi0, h0, h1, h2⟩ := info_parts ins4_info
    rw [hi0]; simp [h1]
  have hc63 : cap ≤ 9223372036854775807 := by unfold maxLen at hcm; omega
  have hrow := ins_row (enc := enc4) (k := 1) ins4_len xs x i (by omega) cur.toList (by rw [hl]; exact htk) (by rw [hl]; simp only [Array.length_toList]; omega)
  obtain ⟨cs, hcse⟩ : ∃ cs, (xs.drop i).flatMap (enc4) = cs := ⟨_, rfl⟩
  have hcsl : cs.length = (n - i) * 1 := by rw [← hcse, flat_len ins4_len, List.length_drop, hl]
  have hcs1 : ∀ u ∈ cs, u.oneCell' = true := by rw [← hcse]; exact oneCells_flat ins4_one _
  have hsrc1 : ∀ j v, cs[j]? = some v → w.cell? ((⟨g, i * 1, none⟩ : Addr).add j) = some v := fun j v hj => by
    have e1 : (xs.take i).flatMap (enc4) ++ cs = cur.toList.take (n * 1) := by rw [htk, ← hcse, ← List.flatMap_append, List.take_append_drop]
    have e2 : ((xs.take i).flatMap (enc4)).length = i * 1 := by rw [flat_len ins4_len, List.length_take]; congr 1; omega
    have hjl : j < cs.length := (List.getElem?_eq_some_iff.1 hj).1
    have e3 : cur.toList[i * 1 + j]? = some v := by
      have := congrArg (fun l => l[i * 1 + j]?) e1
      rw [List.getElem?_append_right (by omega), e2, Nat.add_sub_cancel_left, hj, List.getElem?_take, if_pos (by omega)] at this
      exact this.symm
    rw [show ((⟨g, i * 1, none⟩ : Addr).add j) = ⟨g, i * 1 + j, none⟩ from addr_add0, (box_cells hg).1]
    simpa using e3
  obtain ⟨cur1, hcur1⟩ : ∃ c, cur.toList.take ((i + 1) * 1) ++ cs ++ cur.toList.drop ((i + 1) * 1 + cs.length) = c := ⟨_, rfl⟩
  replace hrow := hrow cur1 (by rw [hcse]; exact hcur1)
  have hc1l : cur1.length = cap * 1 := by
    rw [← hcur1, List.length_append, List.length_append, List.length_take, List.length_drop, Array.length_toList]; omega
  have hcp1 : ∀ (W : World), W.heap = w.heap → ∀ ty dc sc, (Builtin.copy_ #[35, 35] ty #[.slice (some ⟨g, (i + 1) * 1, none⟩) (n + 1 - (i + 1)) dc, .slice (some ⟨g, i * 1, none⟩) (n + 1 - i) sc]).run Tryz.prog W =   .ok (goInt ((n - i : Nat) : Int)) (W.setRow g cur1.toArray) := fun W hW ty dc sc => by
    rw [← hcur1]
    exact run_copy_rowK W 35 35 ty 33 1 g ((i + 1) * 1) (n + 1 - (i + 1)) dc ⟨g, i * 1, none⟩ (n + 1 - i) sc (n - i) cur 33 cs Tryz.underlying35 hsz (by rw [hW]; exact hg) (by show n - i = min _ _; omega) hcsl (fun j v hj => by rw [← hsrc1 j v hj]; unfold World.cell?; rw [hW]) (by omega) hcs1
  have hcp2 : ∀ (W : World), W.heap[g]? = some (.cells cur1.toArray 33 (0, 0)) → W.heap[vb]? = w.heap[vb]? → ∀ ty dc, (Builtin.copy_ #[35, 35] ty #[.slice (some ⟨g, i * 1, none⟩) (n + 1 - i) dc, .slice (some ⟨vb, 0, none⟩) 1 1]).run Tryz.prog W = .ok (goInt 1) (W.setRow g (cur1.take (i * 1) ++ (enc4 x) ++ cur1.drop (i * 1 + (enc4 x).length)).toArray) := fun W h1 h2 ty dc => by
    have := run_copy_rowK W 35 35 ty 33 1 g (i * 1) (n + 1 - i) dc ⟨vb, 0, none⟩ 1 1 1 cur1.toArray 33 (enc4 x) Tryz.underlying35 hsz h1 (by show 1 = min _ _; omega) (by rw [ins4_len]) (fun j v hj => by
      rw [show ((⟨vb, 0, none⟩ : Addr).add j) = ⟨vb, 0 + j, none⟩ from addr_add0, (box_cells (h2.trans hvb)).1]
      simpa using hj) (by rw [ins4_len, List.size_toArray, hc1l]; omega) (ins4_one x)
    simpa using this
  obtain ⟨mvb, nvb, lvb⟩ := box_cells hvb
  have hshA : w.shape? vb = some (33, 1) := by unfold World.shape?; rw [hvb]; simp [ins4_len]
  have hshB : w.shape? g = some (33, cap * 1) := by unfold World.shape?; rw [hg]; simp [hcs]
  have hov : ∀ lb cb, (callFunc 146 #[.slice (some ⟨vb, 0, none⟩) 1 1, .slice (some ⟨g, (i + 1) * 1, none⟩) lb cb]).run Tryz.prog w = .ok (.value (.bool false)) w := fun lb cb => by
    rw [run_callFunc_extern Tryz.func146 (by kernel_rfl) (by kernel_rfl) (by kernel_rfl) (e := Extern.SlicesOverlaps.overlaps #[35, 35] #[4]) (by kernel_rfl),
      Lib.run_overlaps_apart w 35 4 33 Tryz.underlying35 1 (fun w => by kernel_rfl) ⟨vb, 0, none⟩ ⟨g, (i + 1) * 1, none⟩ 1 1 lb cb hne 33 33 1 (cap * 1) hshA hshB (by omega) (nvb 0) (nvb 1)]
    rfl
  simp only [Nat.mul_one] at hov
  have hz2 : ¬ ((i : Int) = (n : Int)) := by omega
  have hw1 : IntKind.i64.wrap ((i : Int) + 1) = (i : Int) + 1 := by rw [IntKind.wrap_i64]; omega
  have hb1 : (0 : Int) ≤ (i : Int) + 1 := by omega
  have hin : i ≤ n := by omega
  have htn : ((i : Int) + 1).toNat = i + 1 := by omega
  have hb2 : ¬ (cap = i + 1) := by omega
  have hb3 : (i : Int) ≤ (n : Int) + 1 := by omega
  have hb4 : ¬ (cap = i) := by omega
  have hc1 := hcp1 w.drew rfl 3 (cap - (i + 1)) (cap - i)
  have hW1 : (w.drew.setRow g cur1.toArray).heap[g]? = some (.cells cur1.toArray 33 (0, 0)) := setRow_heap w.drew g cur cur1.toArray 33 (0, 0) hg
  have hW2 : (w.drew.setRow g cur1.toArray).heap[vb]? = w.heap[vb]? := setRow_other w.drew g vb _ hne
  have hc2 := hcp2 (w.drew.setRow g cur1.toArray) hW1 hW2 3 (cap - i)
  obtain ⟨cur2, hcur2⟩ : ∃ c, (cur1.take (i * 1) ++ (enc4 x) ++ cur1.drop (i * 1 + (enc4 x).length)) = c := ⟨_, rfl⟩
  rw [hcur2] at hc2 hrow
  simp only [Nat.mul_one, Nat.add_sub_add_right] at hc1 hc2
  have HW1 := Lib.hid hW1; have HROW := Lib.hid hrow; have HG := Lib.hid hg; have HCL := Lib.hid hc1l; have HC2 := Lib.hid hcur2; have HX := Lib.hid hl
  clear hcp1 hcp2 hW1 hW2 hcur1 hcur2 hrow hsrc1 hcs1 hcsl hcse htk hcs hg hc1l hl h hvb mvb nvb hshA hshB hcm
  go_enter Tryz.func93, Tryz.ntmps93
  go_wp2_with (simp only [hov])
  go_region_law (fail)
  go_wp2
  go_ret
  have hl := HX.out
  refine ⟨rfl, ⟨?_, .inr ⟨g, cap, cur2.toArray, rfl, hbase, setRow_heap _ g _ cur2.toArray 33 (0, 0) HW1.out, hroom, by unfold maxLen; omega, ?_, ?_⟩⟩, ((Fr.refl (fun j => j = g) w).drew.trans (fr_setRow _ g _) (fun k hk => .inl hk)).trans (fr_setRow _ g _) (fun k hk => .inl hk)⟩
  · rw [flat_len ins4_len, List.length_append, List.length_cons, List.length_take, List.length_drop]; congr 1; omega
  · have := HCL.out
    rw [List.size_toArray, ← HC2.out, List.length_append, List.length_append, List.length_take, List.length_drop, ins4_len]; omega
  · have := HROW.out
    rw [hl] at this
    exact this

set_option maxRecDepth 100000 in
set_option maxHeartbeats 4000000 in
/-- At the end. -/
theorem ins4_end (w : World) (base : Nat) (v : Value) (n : Nat) (xs : List (Int)) (x : Int) (vb : Nat) (hbase : base ≤ w.heap.size) (h : w.ownsRow base 33 1 v n (xs.flatMap (enc4))) (hn : n ≤ 1000000) (hvb : w.heap[vb]? = some (.cells (enc4 x).toArray 33 (0, 0))) :
    Calls Tryz.prog 93 #[v, .int .i64 n, .slice (some ⟨vb, 0, none⟩) 1 1] w fun e w' => ∃ v', e = .returned v' ∧ w'.ownsRow base 33 1 v' (n + 1) ((xs ++ [x]).flatMap (enc4)) ∧ Fr (fun j => v.ownBlock = some j) w w' ∧ ∀ j, v'.ownBlock = some j → v.ownBlock = some j ∨ w.heap.size ≤ j := by
  obtain ⟨i0, hi, hz0, hz1, hz2⟩ := info_parts ins4_info
  have hnews : ∀ j u, (enc4 x)[j]? = some u → w.cell? ((⟨vb, 0, none⟩ : Addr).add j) = some u := fun j u hj => by
    rw [addr_add0, (box_cells hvb).1]
    simpa using hj
  have hone := ins4_one x
  have hfl : (xs ++ [x]).flatMap (enc4) = xs.flatMap (enc4) ++ (enc4 x) := by simp
  rw [hfl]
  obtain ⟨nws, hnws⟩ : ∃ l, (enc4 x) = l := ⟨_, rfl⟩
  have hnl : nws.length = 1 * 1 := by rw [← hnws]; rfl
  rw [hnws] at hnews hone ⊢
  obtain ⟨row, hrow⟩ : ∃ l, xs.flatMap (enc4) = l := ⟨_, rfl⟩
  rw [hrow] at h ⊢
  have HR := Lib.hid h; have HN := Lib.hid hnews
  have hv : (v = .slice none 0 0 ∧ n = 0) ∨ ∃ g cap, v = .slice (some ⟨g, 0, none⟩) n cap ∧ n ≤ cap ∧ cap ≤ 9223372036854775807 := by
    rcases h.2 with h' | ⟨g, cap, cur, h', hb, hg, hnc, hcm, hcs, htake⟩
    · exact .inl h'
    · exact .inr ⟨g, cap, h', hnc, by unfold maxLen at hcm; omega⟩
  clear h hnews hvb hnws hrow hfl
  rcases hv with ⟨rfl, rfl⟩ | ⟨g, cap, rfl, hnc, hc63⟩
  · go_enter Tryz.func93, Tryz.ntmps93
    go_wp2_with (at_builtin; go_loud (refine wpList_append_lies _ rfl _ _ 35 rfl base 33 i0 (.int .u64 0) 1 8 Tryz.underlying35 hi hz0 hz1 hz2 rfl (by decide) (.slice none 0 0) 0 _ rfl HR.out ⟨vb, 0, none⟩ 1 1 nws rfl hnl HN.out hone (by omega) (by unfold maxLen; omega) (by omega) hbase w.heap.size rfl ?_); intro g1 cap1 w1 hown1 hgrow1 hfresh1 hlt1)
    go_ret
    exact ⟨.slice (some ⟨g1, 0, none⟩) (0 + 1) cap1, rfl, hown1, (Fr.refl _ _).grown hgrow1 (fun k e => by simp [Value.ownBlock] at e), fun j hj => .inr (by
      simp only [Value.ownBlock, Option.some.injEq] at hj
      subst hj
      rcases hfresh1 with h | h
      · simp [Value.ownBlock] at h
      · omega)⟩
  · by_cases hcn : cap = n
    all_goals
      go_enter Tryz.func93, Tryz.ntmps93
      go_wp2_with (at_builtin; go_loud (refine wpList_append_lies _ rfl _ _ 35 rfl base 33 i0 (.int .u64 0) 1 8 Tryz.underlying35 hi hz0 hz1 hz2 rfl (by decide) (.slice (some ⟨g, 0, none⟩) n cap) n _ rfl HR.out ⟨vb, 0, none⟩ 1 1 nws rfl hnl HN.out hone (by omega) (by unfold maxLen; omega) (by omega) hbase w.heap.size rfl ?_); intro g1 cap1 w1 hown1 hgrow1 hfresh1 hlt1)
      go_ret
      exact ⟨.slice (some ⟨g1, 0, none⟩) (n + 1) cap1, rfl, hown1, (Fr.refl _ _).grown hgrow1 (fun k e => .inl e), fun j hj => by
        simp only [Value.ownBlock, Option.some.injEq] at hj ⊢
        subst hj
        rcases hfresh1 with h | h
        · simp only [Value.ownBlock, Option.some.injEq] at h; exact .inl h
        · exact .inr (by omega)⟩

set_option maxRecDepth 100000 in
set_option maxHeartbeats 4000000 in
/-- There is no room, and it is not the end: a new row. -/
theorem ins4_grow (w : World) (base g n cap i : Nat) (xs : List (Int)) (x : Int) (vb : Nat) (hbase : base ≤ w.heap.size) (h : w.ownsRow base 33 1 (.slice (some ⟨g, 0, none⟩) n cap) n (xs.flatMap (enc4))) (hl : xs.length = n) (hi : i < n) (hn : n ≤ 1000000) (hroom : ¬ n + 1 ≤ cap) (hvb : w.heap[vb]? = some (.cells (enc4 x).toArray 33 (0, 0))) :
    Calls Tryz.prog 93 #[.slice (some ⟨g, 0, none⟩) n cap, .int .i64 i, .slice (some ⟨vb, 0, none⟩) 1 1] w fun e w' => ∃ G,
      e = .returned (.slice (some ⟨w.heap.size, 0, none⟩) (n + 1) G) ∧ w'.ownsRow base 33 1 (.slice (some ⟨w.heap.size, 0, none⟩) (n + 1) G) (n + 1) ((xs.take i ++ x :: xs.drop i).flatMap (enc4)) ∧ Fr N0 w w' := by
  obtain ⟨i0, hi0, hz0, hz1, hz2⟩ := info_parts ins4_info
  obtain ⟨cur, hg, hnc, hcm, hcs, htk⟩ : ∃ cur, w.heap[g]? = some (.cells cur 33 (0, 0)) ∧ n ≤ cap ∧ cap ≤ maxLen ∧ cur.size = cap * 1 ∧ cur.toList.take (n * 1) = xs.flatMap (enc4) := by
    rcases h.2 with ⟨h', _⟩ | ⟨g', cap', cur, h', hb, hg, hnc, hcm, hcs, htake⟩
    · simp at h'
    · simp only [Value.slice.injEq, Option.some.injEq, Addr.mk.injEq, and_true, true_and] at h'
      obtain ⟨rfl, rfl⟩ := h'
      exact ⟨cur, hg, hnc, hcm, hcs, htake⟩
  have hsz : (Tryz.prog.info? 33).map (·.size) = some 1 := by rw [hi0]; simp [hz1]
  have hc63 : cap ≤ 9223372036854775807 := by unfold maxLen at hcm; omega
  have hgl := lt_of_block hg
  have hvl := lt_of_block hvb
  obtain ⟨os, hose⟩ : ∃ cs, (xs.take i).flatMap (enc4) = cs := ⟨_, rfl⟩
  obtain ⟨cs, hcse⟩ : ∃ cs, (xs.drop i).flatMap (enc4) = cs := ⟨_, rfl⟩
  have hosl : os.length = i * 1 := by rw [← hose, flat_len ins4_len, List.length_take]; congr 1; omega
  have hcsl : cs.length = (n - i) * 1 := by rw [← hcse, flat_len ins4_len, List.length_drop, hl]
  have hcs1 : ∀ u ∈ cs, u.oneCell' = true := by rw [← hcse]; exact oneCells_flat ins4_one _
  have e1 : os ++ cs = cur.toList.take (n * 1) := by rw [htk, ← hose, ← hcse, ← List.flatMap_append, List.take_append_drop]
  have hsrc : ∀ j v, (os ++ cs)[j]? = some v → w.cell? ⟨g, j, none⟩ = some v := fun j v hj => by
    rw [e1, List.getElem?_take] at hj
    split at hj
    · rw [(box_cells hg).1]; simpa using hj
    · cases hj
  have hold : (Builtin.firstCells i0.size i (.slice (some ⟨g, 0, none⟩) i cap)).run Tryz.prog w.drew = .ok os.toArray w.drew := by
    rw [hz1]
    exact run_firstCells_some w.drew 1 i ⟨g, 0, none⟩ i cap os hosl (fun j v hj => by
      rw [addr_add0, Nat.zero_add]
      exact hsrc j v (by rw [List.getElem?_append_left (List.getElem?_eq_some_iff.1 hj).1]; exact hj))
  have hrz : ∀ ty, (Builtin.append_ #[35, 3] ty #[.slice (some ⟨g, 0, none⟩) i cap, .int .i64 ((n + 1 - i : Nat) : Int)]).run Tryz.prog w = .ok (.slice (some ⟨w.heap.size, 0, none⟩) (n + 1) (grownCap w (n + 1) cap 33)) (w.drew.alloc (.cells (os.toArray ++ Builtin.zeroCells (Value.cells (.int .u64 0)) (n + 1 - i) ++ Builtin.zeroCells (Value.cells (.int .u64 0)) (grownCap w (n + 1) cap 33 - (n + 1))) 33)) := fun ty => by
    have h := Lib.run_append_grow_zeros w 35 3 ty 33 i0 (.int .u64 0) .i64 .i64 Tryz.underlying35 Tryz.underlying3 hi0 hz0 (some ⟨g, 0, none⟩) i cap os hold (n + 1 - i) (by omega) (by omega) (by omega) (by omega) (by rw [hz2]; omega) (by
      rw [show i + (n + 1 - i) = n + 1 by omega]
      exact growslice_fits (by omega) (by rw [hz2]; omega))
    rw [show i + (n + 1 - i) = n + 1 by omega] at h
    exact h
  rw [show (((n + 1 - i : Nat) : Int)) = (n : Int) + 1 - (i : Int) by omega] at hrz
  have hGn : n + 1 ≤ grownCap w (n + 1) cap 33 := grownCap_ge w _ _ _
  have hGm := grownCap_le_maxLen w (n + 1) cap 33 (by unfold maxLen; omega)
  obtain ⟨G, hG⟩ : ∃ G, G = grownCap w (n + 1) cap 33 := ⟨_, rfl⟩
  rw [← hG] at hrz hGn hGm
  have hG63 : G ≤ 9223372036854775807 := by unfold maxLen at hGm; omega
  obtain ⟨cur0, hcur0⟩ : ∃ c, (os.toArray ++ Builtin.zeroCells (Value.cells (.int .u64 0)) (n + 1 - i) ++ Builtin.zeroCells (Value.cells (.int .u64 0)) (G - (n + 1))) = c := ⟨_, rfl⟩
  have hc0l : cur0.size = G * 1 := by
    have hzc : (Value.cells (.int .u64 0)).size = 1 := rfl
    rw [← hcur0, Array.size_append, Array.size_append, size_zeroCells, size_zeroCells, List.size_toArray, hosl, hzc]; omega
  have hc0t : cur0.toList.take (i * 1) = os := by
    rw [← hcur0]
    simp only [Array.toList_append, List.append_assoc]
    rw [List.take_left' (by simpa using hosl)]
  obtain ⟨H, hH⟩ : ∃ H, w.heap.size = H := ⟨_, rfl⟩
  rw [hcur0] at hrz
  have hW1h : (w.drew.alloc (.cells cur0 33)).heap[H]? = some (.cells cur0 33 (0, 0)) := by rw [← hH]; exact World.alloc_heap_new w.drew _
  have hW1f : Fr N0 w (w.drew.alloc (.cells cur0 33)) := (Fr.refl _ _).drew.alloc _
  have hH' : g ≠ H ∧ vb ≠ H := by omega
  obtain ⟨W1, hW1⟩ : ∃ W, w.drew.alloc (.cells cur0 33) = W := ⟨_, rfl⟩
  rw [hW1, hH] at hrz
  rw [hW1] at hW1h hW1f
  obtain ⟨cur1, hcur1⟩ : ∃ c, cur0.toList.take (i * 1) ++ (enc4 x) ++ cur0.toList.drop (i * 1 + (enc4 x).length) = c := ⟨_, rfl⟩
  have hrow := ins_row2 (enc := enc4) (k := 1) ins4_len xs x i (by omega) cur0.toList (hc0t.trans hose.symm) (by rw [hl]; simp only [Array.length_toList]; omega) cur1 hcur1
  rw [hcse] at hrow
  have hc1l : cur1.length = G * 1 := by
    rw [← hcur1, List.length_append, List.length_append, List.length_take, List.length_drop, Array.length_toList, ins4_len]; omega
  have hc1 : (Builtin.copy_ #[35, 35] 3 #[.slice (some ⟨H, i * 1, none⟩) (n + 1 - i) (G - i), .slice (some ⟨vb, 0, none⟩) 1 1]).run Tryz.prog W1 = .ok (goInt ((1 : Nat) : Int)) (W1.setRow H cur1.toArray) := by
    rw [← hcur1]
    exact run_copy_rowK W1 35 35 3 33 1 H (i * 1) (n + 1 - i) (G - i) ⟨vb, 0, none⟩ 1 1 1 cur0 33 (enc4 x) Tryz.underlying35 hsz hW1h (by show 1 = min _ _; omega) (by rw [ins4_len]) (fun j v hj => by
      rw [addr_add0, (box_cells (hW1f.at (k := vb) id hvl |>.trans hvb)).1]
      simpa using hj) (by rw [ins4_len]; omega) (ins4_one x)
  obtain ⟨cur2, hcur2⟩ : ∃ c, cur1.take ((i + 1) * 1) ++ cs ++ cur1.drop ((i + 1) * 1 + cs.length) = c := ⟨_, rfl⟩
  rw [hcur2] at hrow
  have hW2h : (W1.setRow H cur1.toArray).heap[H]? = some (.cells cur1.toArray 33 (0, 0)) := setRow_heap W1 H cur0 cur1.toArray 33 (0, 0) hW1h
  have hW2g : (W1.setRow H cur1.toArray).heap[g]? = w.heap[g]? := (setRow_other W1 H g _ hH'.1).trans (hW1f.at (k := g) id hgl)
  have hW2f : Fr N0 w (W1.setRow H cur1.toArray) := hW1f.trans (fr_setRow _ H _) (fun k hk => .inr (by omega))
  obtain ⟨W2, hW2⟩ : ∃ W, W1.setRow H cur1.toArray = W := ⟨_, rfl⟩
  rw [hW2] at hc1 hW2h hW2g hW2f
  have hc2 : (Builtin.copy_ #[35, 35] 3 #[.slice (some ⟨H, (i + 1) * 1, none⟩) (n + 1 - (i + 1)) (G - (i + 1)), .slice (some ⟨g, i * 1, none⟩) (n - i) (cap - i)]).run Tryz.prog W2.drew = .ok (goInt ((n - i : Nat) : Int)) (W2.drew.setRow H cur2.toArray) := by
    rw [← hcur2]
    exact run_copy_rowK W2.drew 35 35 3 33 1 H ((i + 1) * 1) (n + 1 - (i + 1)) (G - (i + 1)) ⟨g, i * 1, none⟩ (n - i) (cap - i) (n - i) cur1.toArray 33 cs Tryz.underlying35 hsz hW2h (by show n - i = min _ _; omega) hcsl (fun j v hj => by
      rw [addr_add0]
      have e2 := hsrc (i * 1 + j) v (by rw [List.getElem?_append_right (by omega), hosl, Nat.add_sub_cancel_left]; exact hj)
      have e3 : W2.drew.heap[g]? = w.heap[g]? := hW2g
      rw [(box_cells (e3.trans hg)).1]
      rw [(box_cells hg).1] at e2
      exact e2) (by rw [List.size_toArray]; omega) hcs1
  simp only [Nat.mul_one, Nat.add_sub_add_right] at hc1 hc2
  have hb1 : (0 : Int) ≤ (i : Int) + 1 := by omega
  have hw1 : IntKind.i64.wrap ((i : Int) + 1) = (i : Int) + 1 := by rw [IntKind.wrap_i64]; omega
  have hni : (0 : Int) ≤ (n : Int) + 1 - (i : Int) := by omega
  have hni2 : (n : Int) + 1 - (i : Int) ≤ 1000001 := by omega
  have hz2 : ¬ ((i : Int) = (n : Int)) := by omega
  have htn : ((i : Int) + 1).toNat = i + 1 := by omega
  have hb2 : ¬ (cap = i) := by omega
  have hb3 : ¬ (G = i) := by omega
  have hb4 : ¬ (G = i + 1) := by omega
  have hin : i ≤ n := by omega
  have HW2H := Lib.hid hW2h; have HROW := Lib.hid hrow; have HCL := Lib.hid hc1l; have HC2 := Lib.hid hcur2; have HX := Lib.hid hl; have HW2F := Lib.hid hW2f; have HCS := Lib.hid hcsl; have HHH := Lib.hid hH
  clear hW2h hrow hc1l hcur2 hl hW2f hcsl hW1h hW1f hW2g hW1 hW2 hcur0 hcur1 hc0l hc0t hose hcse hosl hcs1 e1 hsrc hold h hvb hg hcm hcs htk hz0 hz1 hz2 hi0 hsz hG
  rw [hH]
  go_enter Tryz.func93, Tryz.ntmps93
  go_wp2_with (at_builtin; go_loud (refine Lib.wpList_append_run _ rfl _ _ _ _ rfl _ _ rfl rfl _ _ (hrz _) ?_))
  go_region_law (fail)
  go_wp2
  go_ret
  have hl := HX.out
  refine ⟨G, rfl, ⟨?_, .inr ⟨H, G, cur2.toArray, rfl, by have := HHH.out; omega, setRow_heap _ H _ cur2.toArray 33 (0, 0) HW2H.out, hGn, hGm, ?_, ?_⟩⟩, HW2F.out.drew.trans (fr_setRow _ H _) (fun k hk => .inr (by have := HHH.out; omega))⟩
  · rw [flat_len ins4_len, List.length_append, List.length_cons, List.length_take, List.length_drop]; congr 1; omega
  · have := HCL.out; have := HCS.out
    rw [List.size_toArray, ← HC2.out, List.length_append, List.length_append, List.length_take, List.length_drop]; omega
  · have := HROW.out
    rw [hl] at this
    exact this

/-- Wherever it is put in. -/
theorem ins4_any (w : World) (base : Nat) (v : Value) (n i : Nat) (xs : List (Int)) (x : Int) (vb : Nat) (hbase : base ≤ w.heap.size) (h : w.ownsRow base 33 1 v n (xs.flatMap (enc4))) (hl : xs.length = n) (hi : i ≤ n) (hn : n ≤ 1000000) (hvb : w.heap[vb]? = some (.cells (enc4 x).toArray 33 (0, 0))) (hne : v.ownBlock ≠ some vb) :
    Calls Tryz.prog 93 #[v, .int .i64 i, .slice (some ⟨vb, 0, none⟩) 1 1] w fun e w' => ∃ v', e = .returned v' ∧ w'.ownsRow base 33 1 v' (n + 1) ((xs.take i ++ x :: xs.drop i).flatMap (enc4)) ∧ Fr (fun j => v.ownBlock = some j) w w' ∧ ∀ j, v'.ownBlock = some j → v.ownBlock = some j ∨ w.heap.size ≤ j := by
  by_cases he : i = n
  · subst he
    refine (ins4_end w base v i xs x vb hbase h hn hvb).mono ?_
    rintro e w' ⟨v', rfl, h1, h2, h3⟩
    refine ⟨v', rfl, ?_, h2, h3⟩
    rw [List.take_of_length_le (by omega), List.drop_eq_nil_of_le (by omega)]
    exact h1
  · have hv : ∃ g cap, v = .slice (some ⟨g, 0, none⟩) n cap := by
      rcases h.2 with ⟨_, h'⟩ | ⟨g, cap, cur, h', -⟩
      · omega
      · exact ⟨g, cap, h'⟩
    obtain ⟨g, cap, rfl⟩ := hv
    by_cases hr : n + 1 ≤ cap
    · refine (ins4_shift w base g n cap i xs x vb h hl (by omega) hr hvb (fun e => hne (by rw [e]; rfl))).mono ?_
      rintro e w' ⟨rfl, h1, h2⟩
      exact ⟨_, rfl, h1, h2.mono fun k hk => .inl (by simp only [Value.ownBlock]; rw [show k = g from hk]), fun j hj => .inl hj⟩
    · refine (ins4_grow w base g n cap i xs x vb hbase h hl (by omega) hn hr hvb).mono ?_
      rintro e w' ⟨G, rfl, h1, h2⟩
      exact ⟨_, rfl, h1, h2.mono fun k hk => hk.elim, fun j hj => .inr (by simp only [Value.ownBlock, Option.some.injEq] at hj; omega)⟩
end Go.Proofs.YtefepfiijoafbaaGreat
namespace Go.Proofs.YtefepfiijoafbaaGreat
open Go.RowKit Go.Shelf Go.Lib
attribute [local go_sem] Oper.semAt_some
set_option linter.unusedVariables false
set_option linter.unusedSimpArgs false
/-- A commit, its writes as a value. -/
structure CmV where
  time : Int
  a : Option Addr
  n : Nat
  c : Nat
def CmV.enc (c : CmV) : List Value := [.int .u64 c.time, .slice c.a c.n c.c]
theorem insC_info : (Tryz.prog.info? 80).map (fun i => (i.zero, i.size, i.bytes)) = some (some (.agg #[.int .u64 0, .slice none 0 0]), 2, 32) := by kernel_rfl
theorem insC_len (x : CmV) : (CmV.enc x).length = 2 := rfl
theorem insC_one (x : CmV) : ∀ u ∈ x.enc, u.oneCell' = true := by intro u hu; simp [CmV.enc] at hu; rcases hu with h | h <;> subst h <;> rfl

set_option maxRecDepth 100000 in
set_option maxHeartbeats 4000000 in
/-- There is room, and it is not the end. -/
theorem insC_shift (w : World) (base g n cap i : Nat) (xs : List (CmV)) (x : CmV) (vb : Nat) (h : w.ownsRow base 80 2 (.slice (some ⟨g, 0, none⟩) n cap) n (xs.flatMap (CmV.enc))) (hl : xs.length = n) (hi : i < n) (hroom : n + 1 ≤ cap) (hvb : w.heap[vb]? = some (.cells (CmV.enc x).toArray 80 (0, 0))) (hne : vb ≠ g) :
    Calls Tryz.prog 96 #[.slice (some ⟨g, 0, none⟩) n cap, .int .i64 i, .slice (some ⟨vb, 0, none⟩) 1 1] w fun e w' =>
      e = .returned (.slice (some ⟨g, 0, none⟩) (n + 1) cap) ∧ w'.ownsRow base 80 2 (.slice (some ⟨g, 0, none⟩) (n + 1) cap) (n + 1) ((xs.take i ++ x :: xs.drop i).flatMap (CmV.enc)) ∧ Fr (fun j => j = g) w w' := by
  obtain ⟨cur, hbase, hg, hcm, hcs, htk⟩ : ∃ cur, base ≤ g ∧ w.heap[g]? = some (.cells cur 80 (0, 0)) ∧ cap ≤ maxLen ∧ cur.size = cap * 2 ∧ cur.toList.take (n * 2) = xs.flatMap (CmV.enc) := by
    rcases h.2 with ⟨h', _⟩ | ⟨g', cap', cur, h', hb, hg, hnc, hcm, hcs, htake⟩
    · simp at h'
    · simp only [Value.slice.injEq, Option.some.injEq, Addr.mk.injEq, and_true, true_and] at h'
      obtain ⟨rfl, rfl⟩ := h'
      exact ⟨cur, hb, hg, hcm, hcs, htake⟩
  have hsz : (Tryz.prog.info? 80).map (·.size) = some 2 := by
    obtain ⟨i0, hi0, h0, h1, h2⟩ := info_parts insC_info
    rw [hi0]; simp [h1]
  have hc63 : cap ≤ 9223372036854775807 := by unfold maxLen at hcm; omega
  have hrow := ins_row (enc := CmV.enc) (k := 2) insC_len xs x i (by omega) cur.toList (by rw [hl]; exact htk) (by rw [hl]; simp only [Array.length_toList]; omega)
  obtain ⟨cs, hcse⟩ : ∃ cs, (xs.drop i).flatMap (CmV.enc) = cs := ⟨_, rfl⟩
  have hcsl : cs.length = (n - i) * 2 := by rw [← hcse, flat_len insC_len, List.length_drop, hl]
  have hcs1 : ∀ u ∈ cs, u.oneCell' = true := by rw [← hcse]; exact oneCells_flat insC_one _
  have hsrc1 : ∀ j v, cs[j]? = some v → w.cell? ((⟨g, i * 2, none⟩ : Addr).add j) = some v := fun j v hj => by
    have e1 : (xs.take i).flatMap (CmV.enc) ++ cs = cur.toList.take (n * 2) := by rw [htk, ← hcse, ← List.flatMap_append, List.take_append_drop]
    have e2 : ((xs.take i).flatMap (CmV.enc)).length = i * 2 := by rw [flat_len insC_len, List.length_take]; congr 1; omega
    have hjl : j < cs.length := (List.getElem?_eq_some_iff.1 hj).1
    have e3 : cur.toList[i * 2 + j]? = some v := by
      have := congrArg (fun l => l[i * 2 + j]?) e1
      rw [List.getElem?_append_right (by omega), e2, Nat.add_sub_cancel_left, hj, List.getElem?_take, if_pos (by omega)] at this
      exact this.symm
    rw [show ((⟨g, i * 2, none⟩ : Addr).add j) = ⟨g, i * 2 + j, none⟩ from addr_add0, (box_cells hg).1]
    simpa using e3
  obtain ⟨cur1, hcur1⟩ : ∃ c, cur.toList.take ((i + 1) * 2) ++ cs ++ cur.toList.drop ((i + 1) * 2 + cs.length) = c := ⟨_, rfl⟩
  replace hrow := hrow cur1 (by rw [hcse]; exact hcur1)
  have hc1l : cur1.length = cap * 2 := by
    rw [← hcur1, List.length_append, List.length_append, List.length_take, List.length_drop, Array.length_toList]; omega
  have hcp1 : ∀ (W : World), W.heap = w.heap → ∀ ty dc sc, (Builtin.copy_ #[36, 36] ty #[.slice (some ⟨g, (i + 1) * 2, none⟩) (n + 1 - (i + 1)) dc, .slice (some ⟨g, i * 2, none⟩) (n + 1 - i) sc]).run Tryz.prog W =   .ok (goInt ((n - i : Nat) : Int)) (W.setRow g cur1.toArray) := fun W hW ty dc sc => by
    rw [← hcur1]
    exact run_copy_rowK W 36 36 ty 80 2 g ((i + 1) * 2) (n + 1 - (i + 1)) dc ⟨g, i * 2, none⟩ (n + 1 - i) sc (n - i) cur 80 cs Tryz.underlying36 hsz (by rw [hW]; exact hg) (by show n - i = min _ _; omega) hcsl (fun j v hj => by rw [← hsrc1 j v hj]; unfold World.cell?; rw [hW]) (by omega) hcs1
  have hcp2 : ∀ (W : World), W.heap[g]? = some (.cells cur1.toArray 80 (0, 0)) → W.heap[vb]? = w.heap[vb]? → ∀ ty dc, (Builtin.copy_ #[36, 36] ty #[.slice (some ⟨g, i * 2, none⟩) (n + 1 - i) dc, .slice (some ⟨vb, 0, none⟩) 1 1]).run Tryz.prog W = .ok (goInt 1) (W.setRow g (cur1.take (i * 2) ++ (CmV.enc x) ++ cur1.drop (i * 2 + (CmV.enc x).length)).toArray) := fun W h1 h2 ty dc => by
    have := run_copy_rowK W 36 36 ty 80 2 g (i * 2) (n + 1 - i) dc ⟨vb, 0, none⟩ 1 1 1 cur1.toArray 80 (CmV.enc x) Tryz.underlying36 hsz h1 (by show 1 = min _ _; omega) (by rw [insC_len]) (fun j v hj => by
      rw [show ((⟨vb, 0, none⟩ : Addr).add j) = ⟨vb, 0 + j, none⟩ from addr_add0, (box_cells (h2.trans hvb)).1]
      simpa using hj) (by rw [insC_len, List.size_toArray, hc1l]; omega) (insC_one x)
    simpa using this
  obtain ⟨mvb, nvb, lvb⟩ := box_cells hvb
  have hshA : w.shape? vb = some (80, 2) := by unfold World.shape?; rw [hvb]; simp [insC_len]
  have hshB : w.shape? g = some (80, cap * 2) := by unfold World.shape?; rw [hg]; simp [hcs]
  have hov : ∀ lb cb, (callFunc 149 #[.slice (some ⟨vb, 0, none⟩) 1 1, .slice (some ⟨g, (i + 1) * 2, none⟩) lb cb]).run Tryz.prog w = .ok (.value (.bool false)) w := fun lb cb => by
    rw [run_callFunc_extern Tryz.func149 (by kernel_rfl) (by kernel_rfl) (by kernel_rfl) (e := Extern.SlicesOverlaps.overlaps #[36, 36] #[4]) (by kernel_rfl),
      Lib.run_overlaps_apart w 36 4 80 Tryz.underlying36 2 (fun w => by kernel_rfl) ⟨vb, 0, none⟩ ⟨g, (i + 1) * 2, none⟩ 1 1 lb cb hne 80 80 2 (cap * 2) hshA hshB (by omega) (nvb 0) (nvb 2)]
    rfl
  skip
  have hz2 : ¬ ((i : Int) = (n : Int)) := by omega
  have hw1 : IntKind.i64.wrap ((i : Int) + 1) = (i : Int) + 1 := by rw [IntKind.wrap_i64]; omega
  have hb1 : (0 : Int) ≤ (i : Int) + 1 := by omega
  have hin : i ≤ n := by omega
  have htn : ((i : Int) + 1).toNat = i + 1 := by omega
  have hb2 : ¬ (cap = i + 1) := by omega
  have hb3 : (i : Int) ≤ (n : Int) + 1 := by omega
  have hb4 : ¬ (cap = i) := by omega
  have hc1 := hcp1 w.drew rfl 3 (cap - (i + 1)) (cap - i)
  have hW1 : (w.drew.setRow g cur1.toArray).heap[g]? = some (.cells cur1.toArray 80 (0, 0)) := setRow_heap w.drew g cur cur1.toArray 80 (0, 0) hg
  have hW2 : (w.drew.setRow g cur1.toArray).heap[vb]? = w.heap[vb]? := setRow_other w.drew g vb _ hne
  have hc2 := hcp2 (w.drew.setRow g cur1.toArray) hW1 hW2 3 (cap - i)
  obtain ⟨cur2, hcur2⟩ : ∃ c, (cur1.take (i * 2) ++ (CmV.enc x) ++ cur1.drop (i * 2 + (CmV.enc x).length)) = c := ⟨_, rfl⟩
  rw [hcur2] at hc2 hrow
  simp only [Nat.add_sub_add_right] at hc1 hc2
  have HW1 := Lib.hid hW1; have HROW := Lib.hid hrow; have HG := Lib.hid hg; have HCL := Lib.hid hc1l; have HC2 := Lib.hid hcur2; have HX := Lib.hid hl
  clear hcp1 hcp2 hW1 hW2 hcur1 hcur2 hrow hsrc1 hcs1 hcsl hcse htk hcs hg hc1l hl h hvb mvb nvb hshA hshB hcm
  go_enter Tryz.func96, Tryz.ntmps96
  go_wp2_with (simp only [hov])
  go_region_law (fail)
  go_wp2
  go_ret
  have hl := HX.out
  refine ⟨rfl, ⟨?_, .inr ⟨g, cap, cur2.toArray, rfl, hbase, setRow_heap _ g _ cur2.toArray 80 (0, 0) HW1.out, hroom, by unfold maxLen; omega, ?_, ?_⟩⟩, ((Fr.refl (fun j => j = g) w).drew.trans (fr_setRow _ g _) (fun k hk => .inl hk)).trans (fr_setRow _ g _) (fun k hk => .inl hk)⟩
  · rw [flat_len insC_len, List.length_append, List.length_cons, List.length_take, List.length_drop]; congr 1; omega
  · have := HCL.out
    rw [List.size_toArray, ← HC2.out, List.length_append, List.length_append, List.length_take, List.length_drop, insC_len]; omega
  · have := HROW.out
    rw [hl] at this
    exact this

set_option maxRecDepth 100000 in
set_option maxHeartbeats 4000000 in
/-- At the end. -/
theorem insC_end (w : World) (base : Nat) (v : Value) (n : Nat) (xs : List (CmV)) (x : CmV) (vb : Nat) (hbase : base ≤ w.heap.size) (h : w.ownsRow base 80 2 v n (xs.flatMap (CmV.enc))) (hn : n ≤ 1000000) (hvb : w.heap[vb]? = some (.cells (CmV.enc x).toArray 80 (0, 0))) :
    Calls Tryz.prog 96 #[v, .int .i64 n, .slice (some ⟨vb, 0, none⟩) 1 1] w fun e w' => ∃ v', e = .returned v' ∧ w'.ownsRow base 80 2 v' (n + 1) ((xs ++ [x]).flatMap (CmV.enc)) ∧ Fr (fun j => v.ownBlock = some j) w w' ∧ ∀ j, v'.ownBlock = some j → v.ownBlock = some j ∨ w.heap.size ≤ j := by
  obtain ⟨i0, hi, hz0, hz1, hz2⟩ := info_parts insC_info
  have hnews : ∀ j u, (CmV.enc x)[j]? = some u → w.cell? ((⟨vb, 0, none⟩ : Addr).add j) = some u := fun j u hj => by
    rw [addr_add0, (box_cells hvb).1]
    simpa using hj
  have hone := insC_one x
  have hfl : (xs ++ [x]).flatMap (CmV.enc) = xs.flatMap (CmV.enc) ++ (CmV.enc x) := by simp
  rw [hfl]
  obtain ⟨nws, hnws⟩ : ∃ l, (CmV.enc x) = l := ⟨_, rfl⟩
  have hnl : nws.length = 1 * 2 := by rw [← hnws]; rfl
  rw [hnws] at hnews hone ⊢
  obtain ⟨row, hrow⟩ : ∃ l, xs.flatMap (CmV.enc) = l := ⟨_, rfl⟩
  rw [hrow] at h ⊢
  have HR := Lib.hid h; have HN := Lib.hid hnews
  have hv : (v = .slice none 0 0 ∧ n = 0) ∨ ∃ g cap, v = .slice (some ⟨g, 0, none⟩) n cap ∧ n ≤ cap ∧ cap ≤ 9223372036854775807 := by
    rcases h.2 with h' | ⟨g, cap, cur, h', hb, hg, hnc, hcm, hcs, htake⟩
    · exact .inl h'
    · exact .inr ⟨g, cap, h', hnc, by unfold maxLen at hcm; omega⟩
  clear h hnews hvb hnws hrow hfl
  rcases hv with ⟨rfl, rfl⟩ | ⟨g, cap, rfl, hnc, hc63⟩
  · go_enter Tryz.func96, Tryz.ntmps96
    go_wp2_with (at_builtin; go_loud (refine wpList_append_lies _ rfl _ _ 36 rfl base 80 i0 (.agg #[.int .u64 0, .slice none 0 0]) 2 32 Tryz.underlying36 hi hz0 hz1 hz2 rfl (by decide) (.slice none 0 0) 0 _ rfl HR.out ⟨vb, 0, none⟩ 1 1 nws rfl hnl HN.out hone (by omega) (by unfold maxLen; omega) (by omega) hbase w.heap.size rfl ?_); intro g1 cap1 w1 hown1 hgrow1 hfresh1 hlt1)
    go_ret
    exact ⟨.slice (some ⟨g1, 0, none⟩) (0 + 1) cap1, rfl, hown1, (Fr.refl _ _).grown hgrow1 (fun k e => by simp [Value.ownBlock] at e), fun j hj => .inr (by
      simp only [Value.ownBlock, Option.some.injEq] at hj
      subst hj
      rcases hfresh1 with h | h
      · simp [Value.ownBlock] at h
      · omega)⟩
  · by_cases hcn : cap = n
    all_goals
      go_enter Tryz.func96, Tryz.ntmps96
      go_wp2_with (at_builtin; go_loud (refine wpList_append_lies _ rfl _ _ 36 rfl base 80 i0 (.agg #[.int .u64 0, .slice none 0 0]) 2 32 Tryz.underlying36 hi hz0 hz1 hz2 rfl (by decide) (.slice (some ⟨g, 0, none⟩) n cap) n _ rfl HR.out ⟨vb, 0, none⟩ 1 1 nws rfl hnl HN.out hone (by omega) (by unfold maxLen; omega) (by omega) hbase w.heap.size rfl ?_); intro g1 cap1 w1 hown1 hgrow1 hfresh1 hlt1)
      go_ret
      exact ⟨.slice (some ⟨g1, 0, none⟩) (n + 1) cap1, rfl, hown1, (Fr.refl _ _).grown hgrow1 (fun k e => .inl e), fun j hj => by
        simp only [Value.ownBlock, Option.some.injEq] at hj ⊢
        subst hj
        rcases hfresh1 with h | h
        · simp only [Value.ownBlock, Option.some.injEq] at h; exact .inl h
        · exact .inr (by omega)⟩

set_option maxRecDepth 100000 in
set_option maxHeartbeats 4000000 in
/-- There is no room, and it is not the end: a new row. -/
theorem insC_grow (w : World) (base g n cap i : Nat) (xs : List (CmV)) (x : CmV) (vb : Nat) (hbase : base ≤ w.heap.size) (h : w.ownsRow base 80 2 (.slice (some ⟨g, 0, none⟩) n cap) n (xs.flatMap (CmV.enc))) (hl : xs.length = n) (hi : i < n) (hn : n ≤ 1000000) (hroom : ¬ n + 1 ≤ cap) (hvb : w.heap[vb]? = some (.cells (CmV.enc x).toArray 80 (0, 0))) :
    Calls Tryz.prog 96 #[.slice (some ⟨g, 0, none⟩) n cap, .int .i64 i, .slice (some ⟨vb, 0, none⟩) 1 1] w fun e w' => ∃ G,
      e = .returned (.slice (some ⟨w.heap.size, 0, none⟩) (n + 1) G) ∧ w'.ownsRow base 80 2 (.slice (some ⟨w.heap.size, 0, none⟩) (n + 1) G) (n + 1) ((xs.take i ++ x :: xs.drop i).flatMap (CmV.enc)) ∧ Fr N0 w w' := by
  obtain ⟨i0, hi0, hz0, hz1, hz2⟩ := info_parts insC_info
  obtain ⟨cur, hg, hnc, hcm, hcs, htk⟩ : ∃ cur, w.heap[g]? = some (.cells cur 80 (0, 0)) ∧ n ≤ cap ∧ cap ≤ maxLen ∧ cur.size = cap * 2 ∧ cur.toList.take (n * 2) = xs.flatMap (CmV.enc) := by
    rcases h.2 with ⟨h', _⟩ | ⟨g', cap', cur, h', hb, hg, hnc, hcm, hcs, htake⟩
    · simp at h'
    · simp only [Value.slice.injEq, Option.some.injEq, Addr.mk.injEq, and_true, true_and] at h'
      obtain ⟨rfl, rfl⟩ := h'
      exact ⟨cur, hg, hnc, hcm, hcs, htake⟩
  have hsz : (Tryz.prog.info? 80).map (·.size) = some 2 := by rw [hi0]; simp [hz1]
  have hc63 : cap ≤ 9223372036854775807 := by unfold maxLen at hcm; omega
  have hgl := lt_of_block hg
  have hvl := lt_of_block hvb
  obtain ⟨os, hose⟩ : ∃ cs, (xs.take i).flatMap (CmV.enc) = cs := ⟨_, rfl⟩
  obtain ⟨cs, hcse⟩ : ∃ cs, (xs.drop i).flatMap (CmV.enc) = cs := ⟨_, rfl⟩
  have hosl : os.length = i * 2 := by rw [← hose, flat_len insC_len, List.length_take]; congr 1; omega
  have hcsl : cs.length = (n - i) * 2 := by rw [← hcse, flat_len insC_len, List.length_drop, hl]
  have hcs1 : ∀ u ∈ cs, u.oneCell' = true := by rw [← hcse]; exact oneCells_flat insC_one _
  have e1 : os ++ cs = cur.toList.take (n * 2) := by rw [htk, ← hose, ← hcse, ← List.flatMap_append, List.take_append_drop]
  have hsrc : ∀ j v, (os ++ cs)[j]? = some v → w.cell? ⟨g, j, none⟩ = some v := fun j v hj => by
    rw [e1, List.getElem?_take] at hj
    split at hj
    · rw [(box_cells hg).1]; simpa using hj
    · cases hj
  have hold : (Builtin.firstCells i0.size i (.slice (some ⟨g, 0, none⟩) i cap)).run Tryz.prog w.drew = .ok os.toArray w.drew := by
    rw [hz1]
    exact run_firstCells_some w.drew 2 i ⟨g, 0, none⟩ i cap os hosl (fun j v hj => by
      rw [addr_add0, Nat.zero_add]
      exact hsrc j v (by rw [List.getElem?_append_left (List.getElem?_eq_some_iff.1 hj).1]; exact hj))
  have hrz : ∀ ty, (Builtin.append_ #[36, 3] ty #[.slice (some ⟨g, 0, none⟩) i cap, .int .i64 ((n + 1 - i : Nat) : Int)]).run Tryz.prog w = .ok (.slice (some ⟨w.heap.size, 0, none⟩) (n + 1) (grownCap w (n + 1) cap 80)) (w.drew.alloc (.cells (os.toArray ++ Builtin.zeroCells (Value.cells (.agg #[.int .u64 0, .slice none 0 0])) (n + 1 - i) ++ Builtin.zeroCells (Value.cells (.agg #[.int .u64 0, .slice none 0 0])) (grownCap w (n + 1) cap 80 - (n + 1))) 80)) := fun ty => by
    have h := Lib.run_append_grow_zeros w 36 3 ty 80 i0 (.agg #[.int .u64 0, .slice none 0 0]) .i64 .i64 Tryz.underlying36 Tryz.underlying3 hi0 hz0 (some ⟨g, 0, none⟩) i cap os hold (n + 1 - i) (by omega) (by omega) (by omega) (by omega) (by rw [hz2]; omega) (by
      rw [show i + (n + 1 - i) = n + 1 by omega]
      exact growslice_fits (by omega) (by rw [hz2]; omega))
    rw [show i + (n + 1 - i) = n + 1 by omega] at h
    exact h
  rw [show (((n + 1 - i : Nat) : Int)) = (n : Int) + 1 - (i : Int) by omega] at hrz
  have hGn : n + 1 ≤ grownCap w (n + 1) cap 80 := grownCap_ge w _ _ _
  have hGm := grownCap_le_maxLen w (n + 1) cap 80 (by unfold maxLen; omega)
  obtain ⟨G, hG⟩ : ∃ G, G = grownCap w (n + 1) cap 80 := ⟨_, rfl⟩
  rw [← hG] at hrz hGn hGm
  have hG63 : G ≤ 9223372036854775807 := by unfold maxLen at hGm; omega
  obtain ⟨cur0, hcur0⟩ : ∃ c, (os.toArray ++ Builtin.zeroCells (Value.cells (.agg #[.int .u64 0, .slice none 0 0])) (n + 1 - i) ++ Builtin.zeroCells (Value.cells (.agg #[.int .u64 0, .slice none 0 0])) (G - (n + 1))) = c := ⟨_, rfl⟩
  have hc0l : cur0.size = G * 2 := by
    have hzc : (Value.cells (.agg #[.int .u64 0, .slice none 0 0])).size = 2 := rfl
    rw [← hcur0, Array.size_append, Array.size_append, size_zeroCells, size_zeroCells, List.size_toArray, hosl, hzc]; omega
  have hc0t : cur0.toList.take (i * 2) = os := by
    rw [← hcur0]
    simp only [Array.toList_append, List.append_assoc]
    rw [List.take_left' (by simpa using hosl)]
  obtain ⟨H, hH⟩ : ∃ H, w.heap.size = H := ⟨_, rfl⟩
  rw [hcur0] at hrz
  have hW1h : (w.drew.alloc (.cells cur0 80)).heap[H]? = some (.cells cur0 80 (0, 0)) := by rw [← hH]; exact World.alloc_heap_new w.drew _
  have hW1f : Fr N0 w (w.drew.alloc (.cells cur0 80)) := (Fr.refl _ _).drew.alloc _
  have hH' : g ≠ H ∧ vb ≠ H := by omega
  obtain ⟨W1, hW1⟩ : ∃ W, w.drew.alloc (.cells cur0 80) = W := ⟨_, rfl⟩
  rw [hW1, hH] at hrz
  rw [hW1] at hW1h hW1f
  obtain ⟨cur1, hcur1⟩ : ∃ c, cur0.toList.take (i * 2) ++ (CmV.enc x) ++ cur0.toList.drop (i * 2 + (CmV.enc x).length) = c := ⟨_, rfl⟩
  have hrow := ins_row2 (enc := CmV.enc) (k := 2) insC_len xs x i (by omega) cur0.toList (hc0t.trans hose.symm) (by rw [hl]; simp only [Array.length_toList]; omega) cur1 hcur1
  rw [hcse] at hrow
  have hc1l : cur1.length = G * 2 := by
    rw [← hcur1, List.length_append, List.length_append, List.length_take, List.length_drop, Array.length_toList, insC_len]; omega
  have hc1 : (Builtin.copy_ #[36, 36] 3 #[.slice (some ⟨H, i * 2, none⟩) (n + 1 - i) (G - i), .slice (some ⟨vb, 0, none⟩) 1 1]).run Tryz.prog W1 = .ok (goInt ((1 : Nat) : Int)) (W1.setRow H cur1.toArray) := by
    rw [← hcur1]
    exact run_copy_rowK W1 36 36 3 80 2 H (i * 2) (n + 1 - i) (G - i) ⟨vb, 0, none⟩ 1 1 1 cur0 80 (CmV.enc x) Tryz.underlying36 hsz hW1h (by show 1 = min _ _; omega) (by rw [insC_len]) (fun j v hj => by
      rw [addr_add0, (box_cells (hW1f.at (k := vb) id hvl |>.trans hvb)).1]
      simpa using hj) (by rw [insC_len]; omega) (insC_one x)
  obtain ⟨cur2, hcur2⟩ : ∃ c, cur1.take ((i + 1) * 2) ++ cs ++ cur1.drop ((i + 1) * 2 + cs.length) = c := ⟨_, rfl⟩
  rw [hcur2] at hrow
  have hW2h : (W1.setRow H cur1.toArray).heap[H]? = some (.cells cur1.toArray 80 (0, 0)) := setRow_heap W1 H cur0 cur1.toArray 80 (0, 0) hW1h
  have hW2g : (W1.setRow H cur1.toArray).heap[g]? = w.heap[g]? := (setRow_other W1 H g _ hH'.1).trans (hW1f.at (k := g) id hgl)
  have hW2f : Fr N0 w (W1.setRow H cur1.toArray) := hW1f.trans (fr_setRow _ H _) (fun k hk => .inr (by omega))
  obtain ⟨W2, hW2⟩ : ∃ W, W1.setRow H cur1.toArray = W := ⟨_, rfl⟩
  rw [hW2] at hc1 hW2h hW2g hW2f
  have hc2 : (Builtin.copy_ #[36, 36] 3 #[.slice (some ⟨H, (i + 1) * 2, none⟩) (n + 1 - (i + 1)) (G - (i + 1)), .slice (some ⟨g, i * 2, none⟩) (n - i) (cap - i)]).run Tryz.prog W2.drew = .ok (goInt ((n - i : Nat) : Int)) (W2.drew.setRow H cur2.toArray) := by
    rw [← hcur2]
    exact run_copy_rowK W2.drew 36 36 3 80 2 H ((i + 1) * 2) (n + 1 - (i + 1)) (G - (i + 1)) ⟨g, i * 2, none⟩ (n - i) (cap - i) (n - i) cur1.toArray 80 cs Tryz.underlying36 hsz hW2h (by show n - i = min _ _; omega) hcsl (fun j v hj => by
      rw [addr_add0]
      have e2 := hsrc (i * 2 + j) v (by rw [List.getElem?_append_right (by omega), hosl, Nat.add_sub_cancel_left]; exact hj)
      have e3 : W2.drew.heap[g]? = w.heap[g]? := hW2g
      rw [(box_cells (e3.trans hg)).1]
      rw [(box_cells hg).1] at e2
      exact e2) (by rw [List.size_toArray]; omega) hcs1
  simp only [Nat.add_sub_add_right] at hc1 hc2
  have hb1 : (0 : Int) ≤ (i : Int) + 1 := by omega
  have hw1 : IntKind.i64.wrap ((i : Int) + 1) = (i : Int) + 1 := by rw [IntKind.wrap_i64]; omega
  have hni : (0 : Int) ≤ (n : Int) + 1 - (i : Int) := by omega
  have hni2 : (n : Int) + 1 - (i : Int) ≤ 1000001 := by omega
  have hz2 : ¬ ((i : Int) = (n : Int)) := by omega
  have htn : ((i : Int) + 1).toNat = i + 1 := by omega
  have hb2 : ¬ (cap = i) := by omega
  have hb3 : ¬ (G = i) := by omega
  have hb4 : ¬ (G = i + 1) := by omega
  have hin : i ≤ n := by omega
  have HW2H := Lib.hid hW2h; have HROW := Lib.hid hrow; have HCL := Lib.hid hc1l; have HC2 := Lib.hid hcur2; have HX := Lib.hid hl; have HW2F := Lib.hid hW2f; have HCS := Lib.hid hcsl; have HHH := Lib.hid hH
  clear hW2h hrow hc1l hcur2 hl hW2f hcsl hW1h hW1f hW2g hW1 hW2 hcur0 hcur1 hc0l hc0t hose hcse hosl hcs1 e1 hsrc hold h hvb hg hcm hcs htk hz0 hz1 hz2 hi0 hsz hG
  rw [hH]
  go_enter Tryz.func96, Tryz.ntmps96
  go_wp2_with (at_builtin; go_loud (refine Lib.wpList_append_run _ rfl _ _ _ _ rfl _ _ rfl rfl _ _ (hrz _) ?_))
  go_region_law (fail)
  go_wp2
  go_ret
  have hl := HX.out
  refine ⟨G, rfl, ⟨?_, .inr ⟨H, G, cur2.toArray, rfl, by have := HHH.out; omega, setRow_heap _ H _ cur2.toArray 80 (0, 0) HW2H.out, hGn, hGm, ?_, ?_⟩⟩, HW2F.out.drew.trans (fr_setRow _ H _) (fun k hk => .inr (by have := HHH.out; omega))⟩
  · rw [flat_len insC_len, List.length_append, List.length_cons, List.length_take, List.length_drop]; congr 1; omega
  · have := HCL.out; have := HCS.out
    rw [List.size_toArray, ← HC2.out, List.length_append, List.length_append, List.length_take, List.length_drop]; omega
  · have := HROW.out
    rw [hl] at this
    exact this

/-- Wherever it is put in. -/
theorem insC_any (w : World) (base : Nat) (v : Value) (n i : Nat) (xs : List (CmV)) (x : CmV) (vb : Nat) (hbase : base ≤ w.heap.size) (h : w.ownsRow base 80 2 v n (xs.flatMap (CmV.enc))) (hl : xs.length = n) (hi : i ≤ n) (hn : n ≤ 1000000) (hvb : w.heap[vb]? = some (.cells (CmV.enc x).toArray 80 (0, 0))) (hne : v.ownBlock ≠ some vb) :
    Calls Tryz.prog 96 #[v, .int .i64 i, .slice (some ⟨vb, 0, none⟩) 1 1] w fun e w' => ∃ v', e = .returned v' ∧ w'.ownsRow base 80 2 v' (n + 1) ((xs.take i ++ x :: xs.drop i).flatMap (CmV.enc)) ∧ Fr (fun j => v.ownBlock = some j) w w' ∧ ∀ j, v'.ownBlock = some j → v.ownBlock = some j ∨ w.heap.size ≤ j := by
  by_cases he : i = n
  · subst he
    refine (insC_end w base v i xs x vb hbase h hn hvb).mono ?_
    rintro e w' ⟨v', rfl, h1, h2, h3⟩
    refine ⟨v', rfl, ?_, h2, h3⟩
    rw [List.take_of_length_le (by omega), List.drop_eq_nil_of_le (by omega)]
    exact h1
  · have hv : ∃ g cap, v = .slice (some ⟨g, 0, none⟩) n cap := by
      rcases h.2 with ⟨_, h'⟩ | ⟨g, cap, cur, h', -⟩
      · omega
      · exact ⟨g, cap, h'⟩
    obtain ⟨g, cap, rfl⟩ := hv
    by_cases hr : n + 1 ≤ cap
    · refine (insC_shift w base g n cap i xs x vb h hl (by omega) hr hvb (fun e => hne (by rw [e]; rfl))).mono ?_
      rintro e w' ⟨rfl, h1, h2⟩
      exact ⟨_, rfl, h1, h2.mono fun k hk => .inl (by simp only [Value.ownBlock]; rw [show k = g from hk]), fun j hj => .inl hj⟩
    · refine (insC_grow w base g n cap i xs x vb hbase h hl (by omega) hn hr hvb).mono ?_
      rintro e w' ⟨G, rfl, h1, h2⟩
      exact ⟨_, rfl, h1, h2.mono fun k hk => hk.elim, fun j hj => .inr (by simp only [Value.ownBlock, Option.some.injEq] at hj; omega)⟩
end Go.Proofs.YtefepfiijoafbaaGreat
