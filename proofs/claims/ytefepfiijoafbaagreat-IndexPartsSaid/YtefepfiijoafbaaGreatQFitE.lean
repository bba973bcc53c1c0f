/- Maps as functions of their keys: a map's elements stand for themselves. Maps with the same keys have the same length. The plain fit and the walked one are the same. -/
import Derived.Maps.OwnSet
import Derived.Maps.RangeWalk
import Derived.Maps.Ext
import Derived.Test.YtefepfiijoafbaaGreatQBase
import Derived.Test.YtefepfiijoafbaaGreatQCopy
namespace Go.Proofs.YtefepfiijoafbaaGreat
open Go.RowKit Go.Shelf Go.Maps
set_option linter.unusedVariables false
set_option linter.unusedSimpArgs false

def heldR (v : Value) : Option (DataW Value × List MemPlace) := some (.held v, [])
theorem heldR_inv {v : Value} {z : DataW Value × List MemPlace} (h : heldR v = some z) : z = (.held v, []) := (Option.some.inj h).symm
open Classical in
/-- F, but for one key. -/
noncomputable def putF (F : Lit → Option Value) (kl : Lit) (v : Option Value) : Lit → Option Value := fun x => if x = kl then v else F x
theorem putF_same (F : Lit → Option Value) (kl : Lit) (v : Option Value) : putF F kl v kl = v := if_pos rfl
theorem putF_other {F : Lit → Option Value} {kl x : Lit} {v : Option Value} (h : x ≠ kl) : putF F kl v x = F x := if_neg h
/-- What F says is what D has. -/
def Views (D : DataW Value) (F : Lit → Option Value) : Prop := ∀ kl, (has D kl = true ∧ ∃ v, F kl = some v ∧ ∀ zd, D.atKey kl zd = .held v) ∨ (has D kl = false ∧ F kl = none)
theorem Views.has {D : DataW Value} {F : Lit → Option Value} (h : Views D F) (kl : Lit) : Maps.has D kl = (F kl).isSome := by
  rcases h kl with ⟨h1, v, h2, -⟩ | ⟨h1, h2⟩ <;> simp [h1, h2]
theorem Views.put {D : DataW Value} {F : Lit → Option Value} (h : Views D F) (hD : IsMap D) {kl : Lit} (hk : WideAt.IsKeyLit kl) (v : Value) : Views (D.put kl (.held v)) (putF F kl (some v)) := fun x => by
  by_cases e : x = kl
  · subst e
    exact .inl ⟨has_put_same hD hk _, v, putF_same _ _ _, fun zd => atKey_put_same hD hk _ _⟩
  · rcases h x with ⟨h1, u, h2, h3⟩ | ⟨h1, h2⟩
    · exact .inl ⟨by rw [has_put_other e]; exact h1, u, by rw [putF_other e]; exact h2, fun zd => by rw [atKey_put_other e]; exact h3 zd⟩
    · exact .inr ⟨by rw [has_put_other e]; exact h1, by rw [putF_other e]; exact h2⟩
theorem Views.del {D : DataW Value} {F : Lit → Option Value} (h : Views D F) (kl : Lit) : Views (D.del kl) (putF F kl none) := fun x => by
  by_cases e : x = kl
  · subst e
    exact .inr ⟨has_del_same, putF_same _ _ _⟩
  · rcases h x with ⟨h1, u, h2, h3⟩ | ⟨h1, h2⟩
    · exact .inl ⟨by rw [has_del_other e]; exact h1, u, by rw [putF_other e]; exact h2, fun zd => by rw [atKey_del_other e]; exact h3 zd⟩
    · exact .inr ⟨by rw [has_del_other e]; exact h1, by rw [putF_other e]; exact h2⟩

section
variable {P : Program} {k : TypeId}
/-- Block b is a map of at most n entries that has at each key what F says. -/
def MapF (P : Program) (k : TypeId) (W : World) (b n : Nat) (F : Lit → Option Value) : Prop := ∃ D : DataW Value, W.ownsMap P k heldR b n D ∧ Views D F
theorem MapF.lt {W : World} {b n : Nat} {F : Lit → Option Value} (h : MapF P k W b n F) : b < W.heap.size := by
  obtain ⟨D, h, -⟩ := h; exact h.lt
theorem MapF.mono {W : World} {b n m : Nat} {F : Lit → Option Value} (h : MapF P k W b n F) (hm : n ≤ m) : MapF P k W b m F := by
  obtain ⟨D, h1, h2⟩ := h; exact ⟨D, h1.mono hm, h2⟩
theorem MapF.at {W W' : World} {b n : Nat} {F : Lit → Option Value} (h : MapF P k W b n F) (hb : W'.heap[b]? = W.heap[b]?) : MapF P k W' b n F := by
  obtain ⟨D, ⟨es, c, h1, h2, h3, h4⟩, h⟩ := h
  exact ⟨D, ⟨es, c, hb.trans h1, h2, h3, h4⟩, h⟩
theorem MapF.fr {W W' : World} {T : Nat → Prop} {b n : Nat} {F : Lit → Option Value} (h : MapF P k W b n F) (hf : Fr T W W') (hb : ¬ T b) : MapF P k W' b n F :=
  h.at (hf.at (k := b) hb h.lt)
/-- A made map. -/
theorem MapF.made (W : World) (P : Program) (k : TypeId) : MapF P k (W.alloc (.map #[] 0)) W.heap.size 0 fun _ => none :=
  ⟨.map [], World.ownsMap_made W P k heldR, fun kl => .inr ⟨rfl, rfl⟩⟩
theorem fr_turned {W W' : World} {b : Nat} (h : W.mapTurned W' b) : Fr (fun j => j = b) W W' :=
  (Fr.refl _ _).grown h.grown (fun j e => .inl (by simpa using e.symm))
/-- m[k], at a key that is there and at one that is not. -/
theorem MapF.look {W : World} {b n : Nat} {F : Lit → Option Value} {t e : TypeId} (h : MapF P k W b n F) (K : Keyed P k) (ht : P.underlying t = some (.map k e)) {z : Value} (hz : (zeroValue e).run P W = .ok z W) {key : Value} {kl : Lit} (hkey : keyOf P k key = some kl) :
    (Instr.lookup t (.map (some b)) key false).run P W = .ok ((F kl).getD z) W ∧ (Instr.lookup t (.map (some b)) key true).run P W = .ok (.tuple #[(F kl).getD z, .bool (F kl).isSome]) W := by
  obtain ⟨D, h, hv⟩ := h
  obtain ⟨v, ps, h1, h2⟩ := h.lookup K ht hz (zd := .held z) (zp := []) rfl hkey
  obtain ⟨v', ps', h3, h4⟩ := h.look_ok K ht hz (zd := .held z) (zp := []) rfl hkey
  have e1 := (Prod.mk.inj (heldR_inv h2)).1
  have e2 := (Prod.mk.inj (heldR_inv h4)).1
  rw [h1, h3, hv.has]
  rcases hv kl with ⟨-, u, h5, h6⟩ | ⟨h5, h6⟩
  · rw [h6] at e1 e2
    cases e1; cases e2
    simp [h5]
  · have h7 : D.atKey kl (.held z) = .held z := atKey_of_not_has h5 _
    rw [h7] at e1 e2
    cases e1; cases e2
    simp [h6]
theorem MapF.look_some {W : World} {b n : Nat} {F : Lit → Option Value} {t e : TypeId} (h : MapF P k W b n F) (K : Keyed P k) (ht : P.underlying t = some (.map k e)) {z : Value} (hz : (zeroValue e).run P W = .ok z W) {key v : Value} {kl : Lit} (hkey : keyOf P k key = some kl) (hF : F kl = some v) :
    (Instr.lookup t (.map (some b)) key true).run P W = .ok (.tuple #[v, .bool true]) W := by
  have := (h.look K ht hz hkey).2; simpa [hF] using this
theorem MapF.look_none {W : World} {b n : Nat} {F : Lit → Option Value} {t e : TypeId} (h : MapF P k W b n F) (K : Keyed P k) (ht : P.underlying t = some (.map k e)) {z : Value} (hz : (zeroValue e).run P W = .ok z W) {key : Value} {kl : Lit} (hkey : keyOf P k key = some kl) (hF : F kl = none) :
    (Instr.lookup t (.map (some b)) key true).run P W = .ok (.tuple #[z, .bool false]) W := by
  have := (h.look K ht hz hkey).2; simpa [hF] using this
end

section
variable {P : Program} (w : World) {ops : Array Oper} {rest : List Oper} {o : Oper} {a : Act} {Q : Exit → Act → World → Prop}
/-- m[k] = v -/
theorem wpList_putF (hg : o.guard = none) (m x v : Operand) (t : TypeId) (hop : o.op = Op.mapUpdate t m x v)
    (k e : TypeId) (K : Keyed P k) (ht : P.underlying t = some (.map k e)) (b n : Nat) (F : Lit → Option Value)
    (hm : a.eval m = .map (some b)) (h : MapF P k w b n F) (hn : n < maxLen) (key val : Value) (kl : Lit) (hx : a.eval x = key) (hv : a.eval v = val) (hkey : keyOf P k key = some kl)
    (hK : ∀ w', MapF P k w' b (n + 1) (putF F kl (some val)) → Fr (fun j => j = b) w w' → wpList P ops Q rest (a.put o.dst undef) w') :
    wpList P ops Q (o :: rest) a w := by
  obtain ⟨D, h, hV⟩ := h
  exact wpList_mapUpdate_in w hg m x v t hop k e K ht heldR b n D hm h hn key val kl hx hv hkey (.held val) [] rfl fun w' h1 h2 => hK w' ⟨_, h1, hV.put h.isMap (K.key hkey) val⟩ (fr_turned h2)
/-- delete(m, k) -/
theorem wpList_delF (hg : o.guard = none) (m x : Operand) (t k : TypeId) (hop : o.op = Op.call { callee := Callee.builtin Builtin.delete, args := #[m, x], argTypes := #[t, k] })
    (e : TypeId) (K : Keyed P k) (ht : P.underlying t = some (.map k e)) (b n : Nat) (F : Lit → Option Value)
    (hm : a.eval m = .map (some b)) (h : MapF P k w b n F) (key : Value) (kl : Lit) (hx : a.eval x = key) (hkey : keyOf P k key = some kl)
    (hK : ∀ w', MapF P k w' b n (putF F kl none) → Fr (fun j => j = b) w w' → wpList P ops Q rest (a.put o.dst (.tuple #[])) w') :
    wpList P ops Q (o :: rest) a w := by
  obtain ⟨D, h, hV⟩ := h
  exact wpList_delete_own w hg m x t k hop e K ht heldR b n D hm h key kl hx hkey fun w' h1 h2 => hK w' ⟨_, h1, hV.del kl⟩ (fr_turned h2)

/-- A range over a map under way. -/
def MapR (P : Program) (k : TypeId) (W : World) (b r n : Nat) (F : Lit → Option Value) (left : Lit → Bool) (cnt : Nat) : Prop := ∃ D : DataW Value, W.ranges P k heldR b r n D left cnt ∧ Views D F
theorem MapR.mapF {k : TypeId} {W : World} {b r n cnt : Nat} {F : Lit → Option Value} {left : Lit → Bool} (h : MapR P k W b r n F left cnt) : MapF P k W b n F := by
  obtain ⟨D, h, hV⟩ := h; exact ⟨D, h.owns, hV⟩
theorem MapR.left_eq {k : TypeId} {W : World} {b r n cnt : Nat} {F : Lit → Option Value} {left : Lit → Bool} (h : MapR P k W b r n F left cnt) : W.rangeLeft b r = cnt := by
  obtain ⟨D, h, hV⟩ := h; exact h.left_eq
theorem MapR.ne {k : TypeId} {W : World} {b r n cnt : Nat} {F : Lit → Option Value} {left : Lit → Bool} (h : MapR P k W b r n F left cnt) : r ≠ b := by
  obtain ⟨D, h, hV⟩ := h; exact h.ne
theorem MapR.lt {k : TypeId} {W : World} {b r n cnt : Nat} {F : Lit → Option Value} {left : Lit → Bool} (h : MapR P k W b r n F left cnt) : r < W.heap.size := by
  obtain ⟨D, h, hV⟩ := h; exact h.lt
theorem MapR.fr {k : TypeId} {W W' : World} {T : Nat → Prop} {b r n cnt : Nat} {F : Lit → Option Value} {left : Lit → Bool} (h : MapR P k W b r n F left cnt) (hf : Fr T W W') (hb : ¬ T b) (hr : ¬ T r) : MapR P k W' b r n F left cnt := by
  have hl := h.lt
  have hl2 := h.mapF.lt
  obtain ⟨D, ⟨es, c, s, se, c0, h1, h2, h3, h4, h5, h6⟩, hV⟩ := h
  exact ⟨D, ⟨es, c, s, se, c0, (hf.at (k := b) hb hl2).trans h1, h2, h3, h4, (hf.at (k := r) hr hl).trans h5, h6⟩, hV⟩
theorem fr_grown0 {W W' : World} (h : W.grownBy W' none) : Fr N0 W W' := (Fr.refl _ _).grown h (fun k e => by cases e)
theorem wpList_rangeF (hg : o.guard = none) (m : Operand) (t : TypeId) (hop : o.op = Op.range t m) (k e : TypeId) (K : Keyed P k) (ht : P.underlying t = some (.map k e)) (b n : Nat) (F : Lit → Option Value)
    (hm : a.eval m = .map (some b)) (h : MapF P k w b n F)
    (hK : ∀ w' cnt, MapR P k w' b w.heap.size n F (fun kl => (F kl).isSome) cnt → Fr N0 w w' → w'.heap.size = w.heap.size + 1 → wpList P ops Q rest (a.put o.dst (.pointer (some ⟨w.heap.size, 0, none⟩))) w') :
    wpList P ops Q (o :: rest) a w := by
  obtain ⟨D, h, hV⟩ := h
  have e1 : Maps.has D = fun kl => (F kl).isSome := funext hV.has
  exact wpList_range_own w hg m t hop k e K ht heldR b n D hm h fun w' h1 h2 h3 => hK w' (Maps.size D) ⟨D, e1 ▸ h1, hV⟩ (fr_grown0 h2) h3
theorem wpList_nextF {α β : Type} (hg : o.guard = none) (it : Operand) (hop : o.op = Op.next it false) (k : TypeId) (K : Keyed P k) (mkK : α → Value) (mkV : β → Value)
    (invK : ∀ key kl, keyOf P k key = some kl → ∃ x, key = mkK x) (b r n : Nat) (F : Lit → Option Value) (left : Lit → Bool) (cnt : Nat) (invV : ∀ kl v, F kl = some v → ∃ c, v = mkV c) (hl : ∀ kl, left kl = true → (F kl).isSome = true)
    (hit : a.eval it = .pointer (some ⟨r, 0, none⟩)) (h : MapR P k w b r n F left cnt)
    (hDone : cnt = 0 → (∀ kl, left kl = false) → wpList P ops Q rest (a.put o.dst (.tuple #[.bool false])) w)
    (hMore : ∀ (x : α) (c : β) (kl : Lit) (w' : World) (cnt' : Nat), keyOf P k (mkK x) = some kl → left kl = true → F kl = some (mkV c) → MapR P k w' b r n F (fun z => left z && !z.sameKey kl) cnt' → cnt' < cnt →
      Fr (fun j => j = r) w w' → w'.heap.size = w.heap.size → (Instr.entry (.pointer (some ⟨r, 0, none⟩))).run P w' = .ok (.tuple #[mkK x, mkV c]) w' → wpList P ops Q rest (a.put o.dst (.tuple #[.bool true, mkK x, mkV c])) w') :
    wpList P ops Q (o :: rest) a w := by
  obtain ⟨D, h, hV⟩ := h
  refine wpList_plain hg fun K' hK' => ?_
  unfold Oper.wp
  rcases h.next K o.type with ⟨h0, hl, hrun⟩ | ⟨key, v, kl, y, w', cnt', hkey, hlk, hv, hat, hrun, hrg, hlt, hgr, hsz, hen⟩
  · simp [execOp, hop, hit, hrun, Result.andThen]
    exact hK' _ _ (hDone h0 hl)
  · have ey := heldR_inv hv
    subst ey
    have hF : F kl = some v := by
      rcases hV kl with ⟨-, u, h5, h6⟩ | ⟨h5, h6⟩
      · have := (h6 .nil).symm.trans (hat .nil)
        rw [h5]; exact congrArg some (by simpa using this)
      · have := hl kl hlk; rw [h6] at this; cases this
    obtain ⟨x, rfl⟩ := invK key kl hkey
    obtain ⟨c, rfl⟩ := invV kl v hF
    simp [execOp, hop, hit, hrun, Result.andThen]
    exact hK' _ _ (hMore x c kl w' cnt' hkey hlk hF ⟨D, hrg, hV⟩ hlt ((Fr.refl _ _).grown hgr (fun j e => .inl (by simpa using e.symm))) hsz hen)
end
end Go.Proofs.YtefepfiijoafbaaGreat
namespace Go.Proofs.YtefepfiijoafbaaGreat
open Go.RowKit Go.Shelf Go.Maps
set_option linter.unusedVariables false
set_option linter.unusedSimpArgs false

theorem size_of_has {H : Type} {D D' : DataW H} (h : Canon D) (h' : Canon D') (e : ∀ k, has D k = has D' k) : Maps.size D = Maps.size D' := by
  obtain ⟨es, rfl, p, q⟩ := h
  obtain ⟨es', rfl, p', q'⟩ := h'
  have hm : ∀ (l m : List (Lit × DataW H)), (∀ x ∈ l, WideAt.IsKeyLit x.1) → (∀ k, l.any (fun y => y.1.sameKey k) = true → m.any (fun y => y.1.sameKey k) = true) → ∀ x : Lit × DataW H, x ∈ l.map (fun y => (y.1, (.nil : DataW H))) → x ∈ m.map (fun y => (y.1, (.nil : DataW H))) := by
    intro l m hl hk x hx
    obtain ⟨y, hy, rfl⟩ := List.mem_map.1 hx
    obtain ⟨z, hz, hzy⟩ := List.any_eq_true.1 (hk y.1 (List.any_eq_true.2 ⟨y, hy, WideAt.sameKey_self (hl y hy)⟩))
    exact List.mem_map.2 ⟨z, hz, by rw [WideAt.sameKey_eq hzy]⟩
  have := eq_of_mem_rising (l₁ := es.map fun y => (y.1, (.nil : DataW H))) (l₂ := es'.map fun y => (y.1, (.nil : DataW H))) (List.pairwise_map.2 p) (List.pairwise_map.2 p') fun x =>
    ⟨hm es es' q (fun k hk => (e k).symm.trans hk) x, hm es' es q' (fun k hk => (e k).trans hk) x⟩
  have := congrArg List.length this
  simpa [Maps.size] using this

theorem MapF.lens {P : Program} {k : TypeId} {W W' : World} {b n b' n' : Nat} {F G : Lit → Option Value} (h : MapF P k W b n F) (h' : MapF P k W' b' n' G) (K : Keyed P k) (e : ∀ kl, (F kl).isSome = (G kl).isSome) {t t' el el' : TypeId} (ht : P.underlying t = some (.map k el)) (ht' : P.underlying t' = some (.map k el')) :
    ∃ c : Nat, (∀ ty, (Builtin.len_ #[t] ty #[.map (some b)]).run P W = .ok (.int .i64 c) W) ∧ ∀ ty, (Builtin.len_ #[t'] ty #[.map (some b')]).run P W' = .ok (.int .i64 c) W' := by
  obtain ⟨D, h, hV⟩ := h
  obtain ⟨D', h', hV'⟩ := h'
  refine ⟨Maps.size D, fun ty => h.len ht ty, fun ty => ?_⟩
  rw [size_of_has (h.canon K) (h'.canon K) fun kl => by rw [hV.has, hV'.has, e]]
  exact h'.len ht' ty
/-- len(m) -/
theorem wpList_lenF {P : Program} (w : World) {ops : Array Oper} {rest : List Oper} {o : Oper} {a : Act} {Q : Exit → Act → World → Prop} (hg : o.guard = none) (m : Operand) (t : TypeId) (hop : o.op = Op.call { callee := Callee.builtin Builtin.len, args := #[m], argTypes := #[t] })
    (b c : Nat) (hm : a.eval m = .map (some b)) (hr : ∀ ty, (Builtin.len_ #[t] ty #[.map (some b)]).run P w = .ok (.int .i64 c) w)
    (hK : wpList P ops Q rest (a.put o.dst (.int .i64 c)) w) : wpList P ops Q (o :: rest) a w := by
  refine wpList_plain hg fun K' hK' => ?_
  unfold Oper.wp
  simp [execOp, hop, resolve, invoke, builtin, hm, hr, Result.andThen]
  exact hK' _ _ hK
end Go.Proofs.YtefepfiijoafbaaGreat
namespace Go.Proofs.YtefepfiijoafbaaGreat
set_option linter.unusedVariables false
set_option linter.unusedSimpArgs false
theorem bytes_ne {a b : ByteArray} : a.toList ≠ b.toList ↔ a ≠ b := by
  constructor
  · intro h e; exact h (by rw [e])
  · intro h e
    refine h ?_
    rw [ByteArray.toList_eq, ByteArray.toList_eq] at e
    cases a; cases b
    congr 1
    exact Array.ext' e
theorem tFits_fitE (s : Sch) (x : Wr) : tFits s x = fitE s x := by
  unfold tFits fitE
  by_cases h1 : schMay s = 0
  · by_cases h2 : trMay x = 0
    · have : firstNZ [schMay s, trMay x] = 0 := by rw [h1, h2]; rfl
      have hb : (x.pred.toList = s.pred.toList) = (x.pred = s.pred) := propext (Decidable.not_iff_not.1 bytes_ne)
      rw [this]
      simp only [h1, h2, hb, ne_eq, not_true_eq_false, if_false]
    · have : firstNZ [schMay s, trMay x] = trMay x := by rw [h1]; simp [firstNZ, h2]
      rw [this, if_pos h2, h1, if_neg (by simp), if_pos h2]
  · have : firstNZ [schMay s, trMay x] = schMay s := by simp [firstNZ, h1]
    rw [this, if_pos h1, if_pos h1]
end Go.Proofs.YtefepfiijoafbaaGreat
