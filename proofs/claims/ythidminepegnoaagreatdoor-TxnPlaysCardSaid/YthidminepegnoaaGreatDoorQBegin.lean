/- What the steps' proofs share: results of which the first lies in a cell, a transaction's box behind a call. The program's Begin. -/
import Derived.Test.YthidminepegnoaaGreatDoorQAgain
import Derived.Test.YthidminepegnoaaGreatDoorQCheck
import Derived.Test.YthidminepegnoaaGreatDoorQLoops
namespace Go.Proofs.YthidminepegnoaaGreatDoor
open Go.RowKit Go.Shelf Go.Maps Go.Sort
attribute [local go_sem] Oper.semAt_some
attribute [local irreducible] wpQuiet
set_option linter.unusedVariables false
set_option linter.unusedSimpArgs false

theorem results_row2 {P : Program} {fn : Func} {p u : Tmp} {ty : TypeId} (h : fn.results = #[.cell p ty, .tmp u]) (tmps : Array Value) (w : World) (g : Nat) (t : TypeId) (cs : Array Value) (fr : Nat × Nat) (d : TypeDesc) {x : Value}
    (hp : tmps.getD p undef = .pointer (some ⟨g, 0, none⟩)) (hg : w.heap[g]? = some (.cells cs t fr)) (hx : tmps.getD u undef = x)
    (hu : P.underlying ty = some d) (hd : (match d with | .struct _ | .array _ _ => true | _ => false) = true) (hi : (P.info? ty).map (·.size) = some cs.size) :
    (results fn tmps).run P w = .ok (.tuple #[.agg cs, x]) w := by
  have hp' : tmps[p]?.getD undef = .pointer (some ⟨g, 0, none⟩) := by simpa using hp
  have hx' : tmps[u]?.getD undef = x := by simpa using hx
  simp [results, h, hp', hx', asAddr, run_loadVar_row w g t ty cs fr d hg hu hd hi]
theorem results_row3 {P : Program} {fn : Func} {p u u2 : Tmp} {ty : TypeId} (h : fn.results = #[.cell p ty, .tmp u, .tmp u2]) (tmps : Array Value) (w : World) (g : Nat) (t : TypeId) (cs : Array Value) (fr : Nat × Nat) (d : TypeDesc) {x y : Value}
    (hp : tmps.getD p undef = .pointer (some ⟨g, 0, none⟩)) (hg : w.heap[g]? = some (.cells cs t fr)) (hx : tmps.getD u undef = x) (hy : tmps.getD u2 undef = y)
    (hu : P.underlying ty = some d) (hd : (match d with | .struct _ | .array _ _ => true | _ => false) = true) (hi : (P.info? ty).map (·.size) = some cs.size) :
    (results fn tmps).run P w = .ok (.tuple #[.agg cs, x, y]) w := by
  have hp' : tmps[p]?.getD undef = .pointer (some ⟨g, 0, none⟩) := by simpa using hp
  have hx' : tmps[u]?.getD undef = x := by simpa using hx
  have hy' : tmps[u2]?.getD undef = y := by simpa using hy
  simp [results, h, hp', hx', hy', asAddr, run_loadVar_row w g t ty cs fr d hg hu hd hi]

/-- A transaction's box. -/
@[reducible] def tcells (ph : Int) (st cm : Int) (vw vk vn vg vl : Value) (fl : Bool) : Array Value := #[.int .u8 ph, .int .u64 st, .int .u64 cm, vw, vk, vn, vg, vl, .bool fl]
@[reducible] def zcells : Array Value := #[.int .u8 0, .int .u64 0, .int .u64 0, .slice none 0 0, .slice none 0 0, .slice none 0 0, .slice none 0 0, .slice none 0 0, .bool false]
/-- A block that lay stays, behind calls that turn nothing. -/
theorem Fr.keep {w w' : World} {k : Nat} {o : Obj} (h : w.heap[k]? = some o) (hf : Fr N0 w w') : w'.heap[k]? = some o := (hf.at (k := k) id (lt_of_block h)).trans h
/-- Cells of which none is a text or a group: no list's cells. -/
def Dull (cs : Array Value) : Prop := ∀ (i : Nat) (u : Value), cs[i]? = some u → (∀ s, u ≠ .string s) ∧ ∀ n, u ≠ .int .u32 n
theorem dull_txn (ph st cm : Int) (aw ak an ag al : Option Addr) (nw nk nn ng nl cw ck cn cg cl : Nat) (fl : Bool) : Dull #[.int .u8 ph, .int .u64 st, .int .u64 cm, .slice aw nw cw, .slice ak nk ck, .slice an nn cn, .slice ag ng cg, .slice al nl cl, .bool fl] := by
  intro i u hu
  have hm := List.mem_of_getElem? (l := [.int .u8 ph, .int .u64 st, .int .u64 cm, .slice aw nw cw, .slice ak nk ck, .slice an nn cn, .slice ag ng cg, .slice al nl cl, .bool fl]) (i := i) (a := u) (by simpa using hu)
  simp only [List.mem_cons, List.not_mem_nil, or_false] at hm
  rcases hm with h | h | h | h | h | h | h | h | h <;> subst h <;> exact ⟨fun s e => by simp at e, fun n e => by simp at e⟩
theorem dull_cell {w : World} {B i : Nat} {cs : Array Value} {t : TypeId} {u : Value} (hB : w.heap[B]? = some (.cells cs t (0, 0))) (hd : Dull cs) (hc : w.cell? ⟨B, i, none⟩ = some u) : (∀ s, u ≠ .string s) ∧ ∀ n, u ≠ .int .u32 n :=
  hd i u ((box_cells hB).1 i ▸ hc)
theorem RowsK.past {α : Type} {enc : α → List Value} {n : Nat} (hn : ∀ x, (enc x).length = n) (c : Nat) (hc : c < n) (hs : ∀ x, (∃ s, (enc x)[c]? = some (.string s)) ∨ ∃ k, (enc x)[c]? = some (.int .u32 k))
    {w w' : World} {B b : Nat} {v : Value} {xs : List α} {cs : Array Value} {t : TypeId} (h : RowsK enc n w b v xs) (hB : w.heap[B]? = some (.cells cs t (0, 0))) (hd : Dull cs) (hf : Fr (fun k => k = B) w w') : RowsK enc n w' b v xs := by
  by_cases hb : b = B
  · obtain ⟨a, off, cap, h1, h2, h3, h4, h5, h6⟩ := h
    cases xs with
    | nil => exact ⟨a, off, cap, h1, h2, h3, h4, h5, fun i hi => by simp at hi⟩
    | cons x xs =>
      exfalso
      have := h6 0 (by simp) c hc
      rw [hb] at this
      rcases hs x with ⟨s, e⟩ | ⟨k, e⟩
      · exact (dull_cell hB hd (this.trans e)).1 s rfl
      · exact (dull_cell hB hd (this.trans e)).2 k rfl
  · exact RowsK.on hn h hf hb
theorem strs_past {w w' : World} {B b : Nat} {v : Value} {xs : List ByteArray} {cs : Array Value} {t : TypeId} (h : Strs w b v xs) (hB : w.heap[B]? = some (.cells cs t (0, 0))) (hd : Dull cs) (hf : Fr (fun k => k = B) w w') : Strs w' b v xs := by
  by_cases hb : b = B
  · obtain ⟨a, off, cap, h1, h2, h3, h4, h5, h6⟩ := h
    cases xs with
    | nil => exact ⟨a, off, cap, h1, h2, h3, h4, h5, fun i hi => by simp at hi⟩
    | cons x xs =>
      have := h6 0 (by simp)
      rw [hb] at this
      exact absurd rfl ((dull_cell hB hd this).1 x)
  · exact strs_on h hf hb
theorem ints_past {w w' : World} {B b : Nat} {v : Value} {xs : List Int} {cs : Array Value} {t : TypeId} (h : Ints .u32 w b v xs) (hB : w.heap[B]? = some (.cells cs t (0, 0))) (hd : Dull cs) (hf : Fr (fun k => k = B) w w') : Ints .u32 w' b v xs := by
  by_cases hb : b = B
  · obtain ⟨a, off, cap, h1, h2, h3, h4, h5, h6, h7⟩ := h
    cases xs with
    | nil => exact ⟨a, off, cap, h1, h2, h3, h4, h5, fun i hi => by simp at hi, h7⟩
    | cons x xs =>
      have := h6 0 (by simp)
      rw [hb] at this
      exact absurd rfl ((dull_cell hB hd this).2 x)
  · exact h.fr hf hb
theorem wrs_past {w w' : World} {B b : Nat} {v : Value} {xs : List Wr} {cs : Array Value} {t : TypeId} (h : Wrs w b v xs) (hB : w.heap[B]? = some (.cells cs t (0, 0))) (hd : Dull cs) (hf : Fr (fun k => k = B) w w') : Wrs w' b v xs :=
  RowsK.past (enc := Wr.enc) (n := 8) (fun _ => rfl) 2 (by decide) (fun x => .inl ⟨_, rfl⟩) h hB hd hf
theorem TxnIn.past {w w' : World} {B : Nat} {vw vk vn vg vl : Value} {t : Txn} {cs : Array Value} {ty : TypeId} (h : TxnIn w vw vk vn vg vl t) (hB : w.heap[B]? = some (.cells cs ty (0, 0))) (hd : Dull cs) (hf : Fr (fun k => k = B) w w') : TxnIn w' vw vk vn vg vl t :=
  ⟨h.ws.imp fun _ h => wrs_past h hB hd hf, h.ks.imp fun _ h => strs_past h hB hd hf, h.ns.imp fun _ h => RowsK.past (enc := Rt.enc) (n := 3) (fun _ => rfl) 0 (by decide) (fun x => .inl ⟨_, rfl⟩) h hB hd hf, h.gs.imp fun _ h => ints_past h hB hd hf, h.ls.imp fun _ h => ints_past h hB hd hf, h.n0⟩
theorem IsTxn.past {w w' : World} {B : Nat} {v : Value} {t : Txn} {cs : Array Value} {ty : TypeId} (h : IsTxn w v t) (hB : w.heap[B]? = some (.cells cs ty (0, 0))) (hd : Dull cs) (hf : Fr (fun k => k = B) w w') : IsTxn w' v t := by
  obtain ⟨vw, vk, vn, vg, vl, e, h⟩ := h
  exact ⟨vw, vk, vn, vg, vl, e, h.past hB hd hf⟩
theorem OutV.Is.past {w w' : World} {B : Nat} {r : OutV} {o : Out} {cs : Array Value} {ty : TypeId} (h : r.Is w o) (hB : w.heap[B]? = some (.cells cs ty (0, 0))) (hd : Dull cs) (hf : Fr (fun k => k = B) w w') : r.Is w' o :=
  ⟨h.nums, h.ks.imp fun _ h => strs_past h hB hd hf, h.ns.imp fun _ h => RowsK.past (enc := Nd.enc) (n := 2) (fun _ => rfl) 0 (by decide) (fun x => .inl ⟨_, rfl⟩) h hB hd hf, h.ws.imp fun _ h => wrs_past h hB hd hf⟩
theorem Outs.past {w w' : World} {B : Nat} {v : Value} {l : List Out} {cs : Array Value} {ty : TypeId} (h : Outs w v l) (hB : w.heap[B]? = some (.cells cs ty (0, 0))) (hd : Dull cs) (hf : Fr (fun k => k = B) w w') : Outs w' v l := by
  obtain ⟨b, rs, h1, h2, h3⟩ := h
  exact ⟨b, rs, RowsK.past (enc := OutV.enc) (n := 26) (fun _ => rfl) 0 (by decide) (fun x => .inr ⟨_, rfl⟩) h1 hB hd hf, h2, fun i hi h' => (h3 i hi h').past hB hd hf⟩
theorem blk0 {W : World} {o o2 : Obj} {k : Nat} (h : W.heap[k]? = some o) : (W.alloc o2).heap[k]? = some o := (Below.heap_alloc _ _ _ (lt_of_block h)).trans h
theorem blkN {W : World} {o : Obj} {k : Nat} (h : k = W.heap.size) : (W.alloc o).heap[k]? = some o := h ▸ World.alloc_heap_new W o
theorem Fr.held {w w' : World} (hf : Fr N0 w w') (k : Nat) {o : Obj} (h : w.heap[k]? = some o) : w'.heap[k]? = some o := (hf.at (k := k) id (lt_of_block h)).trans h
/-- A block's cells at the start of two, three allocations. -/
theorem cell_new1 (W : World) (v : Value) (t : TypeId) (B : Nat) (hB : B = W.heap.size) : (W.alloc (.cells #[v] t)).cell? ⟨B, 0, none⟩ = some v := by
  subst hB; exact (boxS_new W #[v] t).1 0
theorem xcheck1 (w : World) (v : Value) (t : Txn) (h : IsTxn w v t) (hv : Inv t) (B : Nat) (p : Int) (hp : (Lit.int .u8 p).wf = true) (hB : w.cell? ⟨B, 0, none⟩ = some (.int .u8 p)) :
    Calls Tryz.prog 62 #[v, .slice (some ⟨B, 0, none⟩) 1 1] w fun e w' => e = .returned (.int .i64 (if t.phase = p then 0 else 3)) ∧ Fr N0 w w' := by
  have hI : Ints .u8 w B (.slice (some ⟨B, 0, none⟩) 1 1) [p] := by
    refine ⟨some ⟨B, 0, none⟩, 0, 1, rfl, Nat.le_refl _, by omega, fun _ => rfl, by simp, fun i hi => ?_, fun y hy => by simp at hy; subst hy; exact hp⟩
    obtain rfl : i = 0 := by simpa using hi
    exact hB
  have := xcheck_any w v t h hv B _ [p] hI (by simp)
  simpa using this
/-- A transaction stands in the result's box, and what is sent is told. -/
def Told (w W : World) (R : Nat) (cs : Array Value) (t : Txn) (vo : Value) (outs : List Out) : Prop :=
  W.heap[R]? = some (.cells cs 32 (0, 0)) ∧ IsTxn W (.agg cs) t ∧ Outs W vo outs ∧ Fr N0 w W
/-- .. the call ahead of the store. -/
theorem told_store {w W : World} {R : Nat} {v0 v1 v2 v3 v4 v5 v6 v7 v8 vo : Value} {z0 z1 z2 z3 z4 z5 z6 z7 z8 : Value} {t : Txn} {outs : List Out} (hR : w.heap.size ≤ R) (hz : W.heap[R]? = some (.cells #[z0, z1, z2, z3, z4, z5, z6, z7, z8] 32 (0, 0))) (hd : Dull #[z0, z1, z2, z3, z4, z5, z6, z7, z8])
    (ht : IsTxn W (.agg #[v0, v1, v2, v3, v4, v5, v6, v7, v8]) t) (ho : Outs W vo outs) (hf : Fr N0 w W) :
    Told w (((((((((W.setCell ⟨R, 0, none⟩ v0).setCell ⟨R, 1, none⟩ v1).setCell ⟨R, 2, none⟩ v2).setCell ⟨R, 3, none⟩ v3).setCell ⟨R, 4, none⟩ v4).setCell ⟨R, 5, none⟩ v5).setCell ⟨R, 6, none⟩ v6).setCell ⟨R, 7, none⟩ v7).setCell ⟨R, 8, none⟩ v8) R #[v0, v1, v2, v3, v4, v5, v6, v7, v8] t vo outs :=
  have hx := txn_box_fr (v0 := v0) (v1 := v1) (v2 := v2) (v3 := v3) (v4 := v4) (v5 := v5) (v6 := v6) (v7 := v7) (v8 := v8) (Fr.refl (fun k => k = R) W) (.inl rfl)
  ⟨txn_box_set hz, ht.past hz hd hx, ho.past hz hd hx, hf.trans hx (fun k hk => .inr (by omega))⟩
/-- .. and behind it. -/
theorem told_call {w W W2 : World} {R : Nat} {v0 v1 v2 v3 v4 v5 v6 v7 v8 vo : Value} {z0 z1 z2 z3 z4 z5 z6 z7 z8 : Value} {t : Txn} {outs : List Out} (hR : w.heap.size ≤ R) (hz : W.heap[R]? = some (.cells #[z0, z1, z2, z3, z4, z5, z6, z7, z8] 32 (0, 0))) (hd : Dull #[z0, z1, z2, z3, z4, z5, z6, z7, z8])
    (ht : IsTxn W (.agg #[v0, v1, v2, v3, v4, v5, v6, v7, v8]) t) (ho : Outs W2 vo outs) (hf : Fr N0 w W) (hf2 : Fr N0 (((((((((W.setCell ⟨R, 0, none⟩ v0).setCell ⟨R, 1, none⟩ v1).setCell ⟨R, 2, none⟩ v2).setCell ⟨R, 3, none⟩ v3).setCell ⟨R, 4, none⟩ v4).setCell ⟨R, 5, none⟩ v5).setCell ⟨R, 6, none⟩ v6).setCell ⟨R, 7, none⟩ v7).setCell ⟨R, 8, none⟩ v8) W2) :
    Told w W2 R #[v0, v1, v2, v3, v4, v5, v6, v7, v8] t vo outs :=
  have hx := txn_box_fr (v0 := v0) (v1 := v1) (v2 := v2) (v3 := v3) (v4 := v4) (v5 := v5) (v6 := v6) (v7 := v7) (v8 := v8) (Fr.refl (fun k => k = R) W) (.inl rfl)
  ⟨Fr.keep (txn_box_set hz) hf2, (ht.past hz hd hx).fr0 hf2, ho, (hf.trans hx (fun k hk => .inr (by omega))).then0 hf2⟩

theorem Told.alloc {w W : World} {R : Nat} {cs : Array Value} {t : Txn} {vo : Value} {outs : List Out} (h : Told w W R cs t vo outs) (o : Obj) : Told w (W.alloc o) R cs t vo outs :=
  ⟨blk0 h.1, h.2.1.fr0 ((Fr.refl _ _).alloc _), h.2.2.1.fr0 ((Fr.refl _ _).alloc _), h.2.2.2.alloc _⟩
theorem Told.step {w W : World} {R : Nat} {cs : Array Value} {t : Txn} {vo : Value} {outs : List Out} {err : Int} (h : Told w W R cs t vo outs) : StepPost w t outs err (.returned (.tuple #[.agg cs, vo, .int .i64 err])) W := ⟨_, _, rfl, h.2.1, h.2.2.1, h.2.2.2⟩
theorem Told.step2 {w W : World} {R : Nat} {cs : Array Value} {t : Txn} {vo : Value} {outs : List Out} {err : Int} (h : Told w W R cs t vo outs) : StepPost2 w t err (.returned (.tuple #[.agg cs, .int .i64 err])) W := ⟨_, rfl, h.2.1, h.2.2.2⟩
theorem isTxn_nums (W : World) (ph st cm : Int) (fl : Bool) : IsTxn W (.agg #[.int .u8 ph, .int .u64 st, .int .u64 cm, .slice none 0 0, .slice none 0 0, .slice none 0 0, .slice none 0 0, .slice none 0 0, .bool fl]) { phase := ph, start := st, commit := cm, failed := fl } := by
  obtain ⟨vw, vk, vn, vg, vl, e, h⟩ := isTxn_zero W
  simp at e
  obtain ⟨rfl, rfl, rfl, rfl, rfl⟩ := e
  exact ⟨_, _, _, _, _, rfl, ⟨h.ws, h.ks, h.ns, h.gs, h.ls, h.n0⟩⟩
/-- A transaction of no lists is stored and nothing is sent. -/
theorem told_nums {w W : World} {R : Nat} {ph st cm : Int} {fl : Bool} (hR : w.heap.size ≤ R) (hz : W.heap[R]? = some (.cells #[.int .u8 0, .int .u64 0, .int .u64 0, .slice none 0 0, .slice none 0 0, .slice none 0 0, .slice none 0 0, .slice none 0 0, .bool false] 32 (0, 0))) (hf : Fr N0 w W) :
    Told w (((((((((W.setCell ⟨R, 0, none⟩ (.int .u8 ph)).setCell ⟨R, 1, none⟩ (.int .u64 st)).setCell ⟨R, 2, none⟩ (.int .u64 cm)).setCell ⟨R, 3, none⟩ (.slice none 0 0)).setCell ⟨R, 4, none⟩ (.slice none 0 0)).setCell ⟨R, 5, none⟩ (.slice none 0 0)).setCell ⟨R, 6, none⟩ (.slice none 0 0)).setCell ⟨R, 7, none⟩ (.slice none 0 0)).setCell ⟨R, 8, none⟩ (.bool fl)) R
      #[.int .u8 ph, .int .u64 st, .int .u64 cm, .slice none 0 0, .slice none 0 0, .slice none 0 0, .slice none 0 0, .slice none 0 0, .bool fl] { phase := ph, start := st, commit := cm, failed := fl } (.slice none 0 0) [] :=
  told_store hR hz (dull_txn _ _ _ _ _ _ _ _ _ _ _ _ _ _ _ _ _ _ _) (isTxn_nums _ _ _ _ _) (outs_nil _) hf

end Go.Proofs.YthidminepegnoaaGreatDoor
namespace Go.Proofs.YthidminepegnoaaGreatDoor
open Go.RowKit Go.Shelf Go.Maps Go.Sort
attribute [local go_sem] Oper.semAt_some
attribute [local irreducible] wpQuiet
set_option linter.unusedVariables false
set_option linter.unusedSimpArgs false

set_option maxRecDepth 100000 in
set_option maxHeartbeats 2000000 in
theorem xBegin_any (w : World) : Calls Tryz.prog 6 #[] w fun e w' => ∃ v vo, e = .returned (.tuple #[v, vo]) ∧ IsTxn w' v { phase := 1 } ∧ Outs w' vo (again { phase := 1 }) ∧ Fr N0 w w' := by
  have ht : ∀ W, IsTxn W (.agg #[.int .u8 1, .int .u64 0, .int .u64 0, .slice none 0 0, .slice none 0 0, .slice none 0 0, .slice none 0 0, .slice none 0 0, .bool false]) { phase := 1 } := fun W => by
    obtain ⟨vw, vk, vn, vg, vl, e, h⟩ := isTxn_zero W
    simp at e
    obtain ⟨rfl, rfl, rfl, rfl, rfl⟩ := e
    exact ⟨_, _, _, _, _, rfl, ⟨h.ws, h.ks, h.ns, h.gs, h.ls, h.n0⟩⟩
  have hA := fun W => xAgain_any W _ _ (ht W) inv_begin
  have HA := Lib.hid hA; have HT := Lib.hid ht
  clear hA ht
  go_enter Tryz.func6, Tryz.ntmps6
  go_wp2
  have hz := (Fr.refl N0 _).alloc (.cells #[.int .u8 1, .int .u64 0, .int .u64 0, .slice none 0 0, .slice none 0 0, .slice none 0 0, .slice none 0 0, .slice none 0 0, .bool false] 32) |>.keep (World.alloc_heap_new w (.cells #[.int .u8 0, .int .u64 0, .int .u64 0, .slice none 0 0, .slice none 0 0, .slice none 0 0, .slice none 0 0, .slice none 0 0, .bool false] 32))
  have ht := World.alloc_heap_new (w.alloc (.cells #[.int .u8 0, .int .u64 0, .int .u64 0, .slice none 0 0, .slice none 0 0, .slice none 0 0, .slice none 0 0, .slice none 0 0, .bool false] 32)) (.cells #[.int .u8 1, .int .u64 0, .int .u64 0, .slice none 0 0, .slice none 0 0, .slice none 0 0, .slice none 0 0, .slice none 0 0, .bool false] 32)
  rw [World.size_alloc] at ht
  have hf0 : Fr N0 w ((w.alloc (.cells #[.int .u8 0, .int .u64 0, .int .u64 0, .slice none 0 0, .slice none 0 0, .slice none 0 0, .slice none 0 0, .slice none 0 0, .bool false] 32)).alloc (.cells #[.int .u8 1, .int .u64 0, .int .u64 0, .slice none 0 0, .slice none 0 0, .slice none 0 0, .slice none 0 0, .slice none 0 0, .bool false] 32)) := ((Fr.refl _ _).alloc _).alloc _
  obtain ⟨W0, hW0⟩ : ∃ W, ((w.alloc (.cells #[.int .u8 0, .int .u64 0, .int .u64 0, .slice none 0 0, .slice none 0 0, .slice none 0 0, .slice none 0 0, .slice none 0 0, .bool false] 32)).alloc (.cells #[.int .u8 1, .int .u64 0, .int .u64 0, .slice none 0 0, .slice none 0 0, .slice none 0 0, .slice none 0 0, .slice none 0 0, .bool false] 32)) = W := ⟨_, rfl⟩
  rw [hW0] at hz ht hf0 ⊢
  clear hW0
  obtain ⟨m0, n0, l0⟩ := box_cells hz
  obtain ⟨m1, n1, l1⟩ := box_cells ht
  have HZ := Lib.hid hz; have HT1 := Lib.hid ht
  clear hz ht
  refine Code.wp_mono (Q := Exit.then (fun a' W => ∃ u3 u4 u5 vo, a' = { tmps := #[.pointer (some ⟨w.heap.size, 0, none⟩), vo, .pointer (some ⟨w.heap.size + 1, 0, none⟩), u3, u4, u5, vo], defers := [] } ∧ Told w W w.heap.size #[.int .u8 1, .int .u64 0, .int .u64 0, .slice none 0 0, .slice none 0 0, .slice none 0 0, .slice none 0 0, .slice none 0 0, .bool false] { phase := 1 } vo (again { phase := 1 })) (fun _ _ _ => False)) ?_ ?_
  case refine_2 =>
    go_region_with (go_at_call 18; go_loud (refine (HA.out _).mono ?_); rintro e w1 ⟨vo, rfl, ho, hf1⟩; have hz1 := (hf1.at (k := w.heap.size) id l0).trans HZ.out; obtain ⟨p0, q0, k0⟩ := box_cells hz1; have ht1 := (hf1.at (k := w.heap.size + 1) id l1).trans HT1.out; obtain ⟨p1, q1, k1⟩ := box_cells ht1)
    all_goals exact ⟨_, _, _, vo, rfl, told_store (Nat.le_refl _) hz1 (dull_txn _ _ _ _ _ _ _ _ _ _ _ _ _ _ _ _ _ _ _) (HT.out _) ho (hf0.drew.then0 hf1)⟩
  intro e a' W hM
  cases e
  case' normal => skip
  all_goals (try exact (hM : False).elim)
  obtain ⟨u3, u4, u5, vo, rfl, hM⟩ := hM
  obtain ⟨hb, hT, hO, hF⟩ := hM
  clear HZ m0 n0 m1 n1 l0 l1 HA HT
  go_wp2
  (try simp only [Exit.inBlock, Exit.then])
  refine bodyPost_ret_by (results_row2 rfl _ _ w.heap.size 32 _ (0, 0) _ rfl hb rfl Tryz.underlying32 rfl sizeTxn) rfl ?_
  exact ⟨_, _, rfl, hT, hO, hF⟩
end Go.Proofs.YthidminepegnoaaGreatDoor
