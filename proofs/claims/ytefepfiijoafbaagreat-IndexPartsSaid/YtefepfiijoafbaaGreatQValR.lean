/- Maps in regions that draw their order: a store, a deletion, a look-up at a step. Package maps: Equal, EqualFunc, where the maps are the same; Copy. A great function's regions as theorems of their own: the frame by a function, the pieces of a text. Rows of values: cloned, boxed. -/
import Derived.Deep.RegionLaw
import Derived.StringKeys
import Derived.Deep.QuietTactic
import Derived.Test.YtefepfiijoafbaaGreatQFitE
import Derived.Test.YtefepfiijoafbaaGreatQBS
import Derived.Test.YtefepfiijoafbaaGreatQBase
import Derived.Test.YtefepfiijoafbaaGreatQOwn
namespace Go.Proofs.YtefepfiijoafbaaGreat
open Go.RowKit Go.Shelf Go.Maps
set_option linter.unusedVariables false
set_option linter.unusedSimpArgs false

section
variable {P : Program} {w : World} {ops : Array Oper} {o : Oper} {a : Act} {K : Act → World → Prop} {Q : Exit → Act → World → Prop} {E : Prop}
/-- m[k] = v -/
theorem step_putF (hg : o.guard = none) (m x v : Operand) (t : TypeId) (hop : o.op = Op.mapUpdate t m x v)
    (k e : TypeId) (Kd : Keyed P k) (ht : P.underlying t = some (.map k e)) (b n : Nat) (F : Lit → Option Value)
    (hm : a.eval m = .map (some b)) (h : MapF P k w b n F) (hn : n < maxLen) (key val : Value) (kl : Lit) (hx : a.eval x = key) (hv : a.eval v = val) (hkey : keyOf P k key = some kl)
    (hK : ∀ w', MapF P k w' b (n + 1) (putF F kl (some val)) → Fr (fun j => j = b) w w' → K (a.put o.dst undef) w') :
    if Region.wanted o (yielded ops a.tmps) = true then Oper.wp P o a w K Q else E := by
  have hw : Region.wanted o (yielded ops a.tmps) = true := by simp [Region.wanted, hg]
  rw [if_pos hw]
  obtain ⟨D, h, hV⟩ := h
  obtain ⟨w', hrun, r1, r2⟩ := h.store Kd ht hn hkey (val := val) (d := .held val) (ps := []) rfl
  unfold Oper.wp
  simp [execOp, hop, hm, hx, hv, hrun, Result.andThen]
  exact hK w' ⟨_, r1, hV.put h.isMap (Kd.key hkey) val⟩ (fr_turned r2)
/-- delete(m, k) -/
theorem step_delF (hg : o.guard = none) (m x : Operand) (t k : TypeId) (hop : o.op = Op.call { callee := Callee.builtin Builtin.delete, args := #[m, x], argTypes := #[t, k] })
    (e : TypeId) (Kd : Keyed P k) (ht : P.underlying t = some (.map k e)) (b n : Nat) (F : Lit → Option Value)
    (hm : a.eval m = .map (some b)) (h : MapF P k w b n F) (key : Value) (kl : Lit) (hx : a.eval x = key) (hkey : keyOf P k key = some kl)
    (hK : ∀ w', MapF P k w' b n (putF F kl none) → Fr (fun j => j = b) w w' → K (a.put o.dst (.tuple #[])) w') :
    if Region.wanted o (yielded ops a.tmps) = true then Oper.wp P o a w K Q else E := by
  have hw : Region.wanted o (yielded ops a.tmps) = true := by simp [Region.wanted, hg]
  rw [if_pos hw]
  obtain ⟨D, h, hV⟩ := h
  obtain ⟨w', hrun, r1, r2⟩ := h.drop Kd ht hkey o.type
  unfold Oper.wp
  simp [execOp, hop, resolve, invoke, builtin, hm, hx, hrun, Result.andThen]
  exact hK w' ⟨_, r1, hV.del kl⟩ (fr_turned r2)
end
section
variable {P : Program} (w : World) {ops : Array Oper} {rest : List Oper} {o : Oper} {a : Act} {Q : Exit → Act → World → Prop}
/-- range m; and how many are to come at most. -/
theorem wpList_rangeF2 (hg : o.guard = none) (m : Operand) (t : TypeId) (hop : o.op = Op.range t m) (k e : TypeId) (K : Keyed P k) (ht : P.underlying t = some (.map k e)) (b n : Nat) (F : Lit → Option Value)
    (hm : a.eval m = .map (some b)) (h : MapF P k w b n F)
    (hK : ∀ w' cnt, cnt ≤ n → MapR P k w' b w.heap.size n F (fun kl => (F kl).isSome) cnt → Fr N0 w w' → w'.heap.size = w.heap.size + 1 → wpList P ops Q rest (a.put o.dst (.pointer (some ⟨w.heap.size, 0, none⟩))) w') :
    wpList P ops Q (o :: rest) a w := by
  obtain ⟨D, h, hV⟩ := h
  have e1 : Maps.has D = fun kl => (F kl).isSome := funext hV.has
  exact wpList_range_own w hg m t hop k e K ht heldR b n D hm h fun w' h1 h2 h3 => hK w' (Maps.size D) h.size_le ⟨D, e1 ▸ h1, hV⟩ (fr_grown0 h2) h3
end
section
variable {P : Program} {k : TypeId} {w : World}
/-- The runs themselves, for a region that draws its order. -/
theorem MapF.store {b n : Nat} {F : Lit → Option Value} {t e : TypeId} (h : MapF P k w b n F) (Kd : Keyed P k) (ht : P.underlying t = some (.map k e)) (hn : n < maxLen) {key : Value} {kl : Lit} (hkey : keyOf P k key = some kl) (val : Value) :
    ∃ w', (Instr.mapUpdate t (.map (some b)) key val).run P w = .ok () w' ∧ MapF P k w' b (n + 1) (putF F kl (some val)) ∧ Fr (fun j => j = b) w w' := by
  obtain ⟨D, h, hV⟩ := h
  obtain ⟨w', hrun, r1, r2⟩ := h.store Kd ht hn hkey (val := val) (d := .held val) (ps := []) rfl
  exact ⟨w', hrun, ⟨_, r1, hV.put h.isMap (Kd.key hkey) val⟩, fr_turned r2⟩
theorem MapF.drop {b n : Nat} {F : Lit → Option Value} {t e : TypeId} (h : MapF P k w b n F) (Kd : Keyed P k) (ht : P.underlying t = some (.map k e)) {key : Value} {kl : Lit} (hkey : keyOf P k key = some kl) (ty : TypeId) :
    ∃ w', (Builtin.delete_ #[t, k] ty #[.map (some b), key]).run P w = .ok (.tuple #[]) w' ∧ MapF P k w' b n (putF F kl none) ∧ Fr (fun j => j = b) w w' := by
  obtain ⟨D, h, hV⟩ := h
  obtain ⟨w', hrun, r1, r2⟩ := h.drop Kd ht hkey ty
  exact ⟨w', hrun, ⟨_, r1, hV.del kl⟩, fr_turned r2⟩
end
end Go.Proofs.YtefepfiijoafbaaGreat
namespace Go.Proofs.YtefepfiijoafbaaGreat
open Go.RowKit Go.Shelf Go.Maps
attribute [local go_sem] Oper.semAt_some
set_option linter.unusedVariables false
set_option linter.unusedSimpArgs false

theorem lawU : Keyed Tryz.prog 33 := int_keyed Tryz.underlying33
theorem lawSt : Keyed Tryz.prog 9 := string_keyed Tryz.underlying9
theorem zeroU64R : ∀ w, (zeroValue 33).run Tryz.prog w = .ok (.int .u64 0) w := fun w => by kernel_rfl
theorem zeroPLR : ∀ w, (zeroValue 51).run Tryz.prog w = .ok (.pointer none) w := fun w => by kernel_rfl
theorem zeroWsR : ∀ w, (zeroValue 34).run Tryz.prog w = .ok (.slice none 0 0) w := fun w => by kernel_rfl
theorem invU {key : Value} {kl : Lit} (h : keyOf Tryz.prog 33 key = some kl) : ∃ x, key = Value.int .u64 x := by
  obtain ⟨x, h, -⟩ := Maps.keyOf_int_inv Tryz.underlying33 h; exact ⟨x, h⟩
theorem invSt {key : Value} {kl : Lit} (h : keyOf Tryz.prog 9 key = some kl) : ∃ x, key = Value.string x := by
  obtain ⟨s, h1, -⟩ := Go.WideMaps.string_of_keyOf Tryz.underlying9 h; exact ⟨s, h1⟩
theorem left_next {F : Lit → Option Value} {left : Lit → Bool} {kl : Lit} (h : ∀ kl, left kl = true → (F kl).isSome = true) : ∀ z, (left z && !z.sameKey kl) = true → (F z).isSome = true := fun z hz => by
  simp only [Bool.and_eq_true] at hz; exact h z hz.1
/-- All but those that are left, and but the one that comes. -/
theorem fr_range {W w w' : World} {r : Nat} (h : Fr N0 W w) (h' : Fr (fun j => j = r) w w') (hr : W.heap.size ≤ r) : Fr N0 W w' := h.trans h' fun k e => .inr (by rw [e]; exact hr)

set_option maxRecDepth 100000 in
set_option maxHeartbeats 1000000 in
theorem mEq4_any (W : World) (b c n m : Nat) (F G : Lit → Option Value) (hb : MapF Tryz.prog 33 W b n F) (hc : MapF Tryz.prog 33 W c m G) (hFG : ∀ kl, F kl = G kl) (hv : ∀ kl v, F kl = some v → ∃ x, v = Value.int .u64 x) :
    Calls Tryz.prog 59 #[.map (some b), .map (some c)] W fun e w' => e = .returned (.bool true) ∧ Fr N0 W w' := by
  obtain ⟨len, l1, l2⟩ := hb.lens hc lawU (fun kl => by rw [hFG]) Tryz.underlying44 Tryz.underlying44
  have HFG := Lib.hid hFG; have HV := Lib.hid hv; have HC := Lib.hid hc
  have hbl := hb.lt
  clear hFG hv hc
  go_enter Tryz.func59, Tryz.ntmps59
  go_wp2_with (first
    | (at_len; with_reducible refine wpList_lenF _ rfl _ 44 rfl b len rfl l1 ?_)
    | (at_len; with_reducible refine wpList_lenF _ rfl _ 44 rfl c len rfl l2 ?_)
    | (at_range; go_loud (refine wpList_rangeF2 _ rfl _ 44 rfl 33 33 lawU Tryz.underlying44 b n F rfl hb ?_); intro w0 cnt0 hc0 hrg0 hf0 hs0))
  go_frame
  clear l1 l2
  go_loopw [] (fun wr => ∃ (left : Lit → Bool) (cnt : Nat), MapR Tryz.prog 33 wr b W.heap.size n F left cnt ∧ Hid (∀ kl, left kl = true → (F kl).isSome = true) ∧ Fr N0 W wr) (fun wr => wr.rangeLeft b W.heap.size)
  case atStart => exact ⟨_, cnt0, hrg0, fun kl h => h, hf0⟩
  case round =>
    obtain ⟨left, cnt, hrg, hl, hfr⟩ := hrel
    go_wp2_with (at_next; go_loud (refine wpList_nextF _ rfl _ rfl 33 lawU (fun x : Int => Value.int .u64 x) (fun x : Int => Value.int .u64 x) (fun _ _ => invU) b W.heap.size n F left cnt HV.out hl.out rfl hrg ?_ ?_))
    · intro _ _
      go_wp2
      go_ret
      exact ⟨rfl, hfr⟩
    · intro x v kl w' cnt' hkey hlk hF hrg' hlt hfr' hsz hen
      have hfw := fr_range hfr hfr' (Nat.le_refl _)
      have hlook := ((HC.out).fr hfw id).look_some lawU Tryz.underlying44 (zeroU64R _) hkey ((HFG.out kl).symm.trans hF)
      have HK := Lib.hid hkey; have HLK := Lib.hid hlk; have HF := Lib.hid hF
      clear hkey hlk hF
      go_wp2
      go_roundw
      case rel => exact ⟨_, cnt', hrg', left_next hl.out, hfw⟩
      case measure => rw [hrg'.left_eq, hrg.left_eq]; omega

/-- What has gone over: all but what is left. -/
def outOf (F : Lit → Option Value) (left : Lit → Bool) : Lit → Option Value := fun kl => if left kl then none else F kl
theorem outOf_start (F : Lit → Option Value) : outOf F (fun kl => (F kl).isSome) = fun _ => none := by
  funext kl; unfold outOf
  cases h : F kl <;> simp [h]
theorem outOf_end {F : Lit → Option Value} {left : Lit → Bool} (h : ∀ kl, left kl = false) : outOf F left = F := by
  funext kl; simp [outOf, h]
theorem outOf_step {F : Lit → Option Value} {left : Lit → Bool} {kl : Lit} {v : Value} (hk : WideAt.IsKeyLit kl) (hF : F kl = some v) : putF (outOf F left) kl (some v) = outOf F fun z => left z && !z.sameKey kl := by
  funext z
  by_cases e : z = kl
  · subst e; rw [putF_same]; simp [outOf, WideAt.sameKey_self hk, hF]
  · rw [putF_other e]; simp [outOf, sameKey_ne e]

set_option maxRecDepth 100000 in
set_option maxHeartbeats 1000000 in
/-- maps.Copy -/
theorem mCopy4_any (W : World) (b c n m N : Nat) (F G : Lit → Option Value) (hb : MapF Tryz.prog 33 W b n F) (hc : MapF Tryz.prog 33 W c m fun _ => none) (hbc : b ≠ c) (hv : ∀ kl v, F kl = some v → ∃ x, v = Value.int .u64 x) (hm : m + n ≤ N) (hN : N ≤ 1000000) :
    Calls Tryz.prog 65 #[.map (some c), .map (some b)] W fun e w' => e = .returned (.tuple #[]) ∧ MapF Tryz.prog 33 w' c N F ∧ Fr (fun j => j = c) W w' := by
  have HV := Lib.hid hv
  have hbl := hb.lt
  have hcl := hc.lt
  clear hv
  go_enter Tryz.func65, Tryz.ntmps65
  go_wp2_with (at_range; go_loud (refine wpList_rangeF2 _ rfl _ 44 rfl 33 33 lawU Tryz.underlying44 b n F rfl hb ?_); intro w0 cnt0 hc0 hrg0 hf0 hs0)
  go_frame
  go_loopw [] (fun wr => ∃ (left : Lit → Bool) (cnt k : Nat), MapR Tryz.prog 33 wr b W.heap.size n F left cnt ∧ MapF Tryz.prog 33 wr c k (outOf F left) ∧ k + cnt ≤ N ∧ Hid (∀ kl, left kl = true → (F kl).isSome = true) ∧ Fr (fun j => j = c) W wr) (fun wr => wr.rangeLeft b W.heap.size)
  case atStart => exact ⟨_, cnt0, m, hrg0, by rw [outOf_start]; exact hc.fr hf0 id, by omega, fun kl h => h, hf0.mono fun _ h => h.elim⟩
  case round =>
    obtain ⟨left, cnt, k, hrg, hout, hkc, hl, hfr⟩ := hrel
    have hz := hfr.size
    go_wp2_with (at_next; go_loud (refine wpList_nextF _ rfl _ rfl 33 lawU (fun x : Int => Value.int .u64 x) (fun x : Int => Value.int .u64 x) (fun _ _ => invU) b W.heap.size n F left cnt HV.out hl.out rfl hrg ?_ ?_))
    · intro _ hl0
      have ho : outOf F left = F := outOf_end hl0
      rw [ho] at hout
      have HO := Lib.hid (hout.mono (by omega : k ≤ N))
      clear ho hout hl hl0 hrg
      go_wp2
      exact ⟨rfl, .tuple #[], by simp [results, go_sem, Tryz.results65], rfl, HO.out, hfr⟩
    · intro x v kl w' cnt' hkey hlk hF hrg' hlt hfr' hsz hen
      have hfw : Fr (fun j => j = c) W w' := hfr.trans hfr' fun k e => .inr (by rw [e]; exact Nat.le_refl _)
      have hout' := hout.fr hfr' (fun e => by omega)
      have hst := outOf_step (left := left) (lawU.key hkey) hF
      have HK := Lib.hid hkey; have HF := Lib.hid hF; have HO := Lib.hid hout'; have HR := Lib.hid hrg'; have HS := Lib.hid hst
      clear hkey hlk hF hout hout' hrg' hst
      go_wp2_with (at_mapUpdate; go_loud (refine wpList_putF _ rfl _ _ _ 44 rfl 33 33 lawU Tryz.underlying44 c k _ rfl HO.out (by unfold maxLen; omega) _ _ kl rfl rfl HK.out ?_); intro w2 ho2 hf2)
      replace ho2 : MapF Tryz.prog 33 w2 c (k + 1) (putF (outOf F left) kl (some (.int .u64 v))) := ho2
      rw [HS.out] at ho2
      have hr2 := HR.out.fr hf2 (fun e => hbc e) (fun e => by omega)
      go_roundw
      case rel =>
        refine ⟨_, _, _, _, _, _, _, _, _, _, ⟨_, cnt', k + 1, hr2, ho2, by omega, left_next hl.out, hfw.trans hf2 fun _ e => .inl e⟩, rfl⟩
      case measure => rw [hr2.left_eq, hrg.left_eq]; omega
set_option maxRecDepth 100000 in
set_option maxHeartbeats 1000000 in
/-- maps.EqualFunc, where each pair is found the same. -/
theorem mEqL_any (W : World) (b c n m : Nat) (F G : Lit → Option Value) (hb : MapF Tryz.prog 9 W b n F) (hc : MapF Tryz.prog 9 W c m G) (hFG : ∀ kl, (F kl).isSome = (G kl).isSome)
    (hE : ∀ kl v u, F kl = some v → G kl = some u → ∀ W', Fr N0 W W' → Calls Tryz.prog 56 #[v, u] W' fun e w' => e = .returned (.bool true) ∧ Fr N0 W' w') :
    Calls Tryz.prog 55 #[.map (some b), .map (some c), .func (.func 56) #[] #[]] W fun e w' => e = .returned (.bool true) ∧ Fr N0 W w' := by
  obtain ⟨len, l1, l2⟩ := hb.lens hc lawSt hFG Tryz.underlying119 Tryz.underlying119
  have HFG := Lib.hid hFG; have HE := Lib.hid hE; have HC := Lib.hid hc
  have hbl := hb.lt
  clear hFG hE hc
  go_enter Tryz.func55, Tryz.ntmps55
  go_wp2_with (first
    | (at_len; with_reducible refine wpList_lenF _ rfl _ 119 rfl b len rfl l1 ?_)
    | (at_len; with_reducible refine wpList_lenF _ rfl _ 119 rfl c len rfl l2 ?_)
    | (at_range; go_loud (refine wpList_rangeF2 _ rfl _ 119 rfl 9 51 lawSt Tryz.underlying119 b n F rfl hb ?_); intro w0 cnt0 hc0 hrg0 hf0 hs0))
  go_frame
  clear l1 l2
  go_loopw [] (fun wr => ∃ (left : Lit → Bool) (cnt : Nat), MapR Tryz.prog 9 wr b W.heap.size n F left cnt ∧ Hid (∀ kl, left kl = true → (F kl).isSome = true) ∧ Fr N0 W wr) (fun wr => wr.rangeLeft b W.heap.size)
  case atStart => exact ⟨_, cnt0, hrg0, fun kl h => h, hf0⟩
  case round =>
    obtain ⟨left, cnt, hrg, hl, hfr⟩ := hrel
    go_wp2_with (at_next; go_loud (refine wpList_nextF _ rfl _ rfl 9 lawSt (fun x : ByteArray => Value.string x) (fun v : Value => v) (fun _ _ => invSt) b W.heap.size n F left cnt (fun _ v _ => ⟨v, rfl⟩) hl.out rfl hrg ?_ ?_))
    · intro _ _
      go_wp2
      go_ret
      exact ⟨rfl, hfr⟩
    · intro x v kl w' cnt' hkey hlk hF hrg' hlt hfr' hsz hen
      have hfw := fr_range hfr hfr' (Nat.le_refl _)
      obtain ⟨u, hG⟩ : ∃ u, G kl = some u := by
        have := HFG.out kl
        rw [hF] at this
        exact Option.isSome_iff_exists.1 this.symm
      have hlook := ((HC.out).fr hfw id).look_some lawSt Tryz.underlying119 (zeroPLR _) hkey hG
      have hcall := HE.out kl v u hF hG w' hfw
      have HK := Lib.hid hkey; have HLK := Lib.hid hlk; have HF := Lib.hid hF; have HCALL := Lib.hid hcall; have HG := Lib.hid hG; have HRG := Lib.hid hrg'
      clear hkey hlk hF hcall hG hrg'
      go_wp2_with (go_at_call 56; go_loud (refine HCALL.out.mono ?_); rintro e w2 ⟨rfl, hf2⟩)
      have hr2 := HRG.out.fr hf2 id id
      go_roundw
      case rel => exact ⟨_, cnt', hr2, left_next hl.out, hfw.then0 hf2⟩
      case measure => rw [hr2.left_eq, hrg.left_eq]; omega

set_option maxRecDepth 100000 in
set_option maxHeartbeats 1000000 in
/-- maps.EqualFunc, where each pair is found the same. -/
theorem mEqW_any (W : World) (b c n m : Nat) (F G : Lit → Option Value) (hb : MapF Tryz.prog 33 W b n F) (hc : MapF Tryz.prog 33 W c m G) (hFG : ∀ kl, (F kl).isSome = (G kl).isSome)
    (hE : ∀ kl v u, F kl = some v → G kl = some u → ∀ W', Fr N0 W W' → Calls Tryz.prog 58 #[v, u] W' fun e w' => e = .returned (.bool true) ∧ Fr N0 W' w') :
    Calls Tryz.prog 57 #[.map (some b), .map (some c), .func (.func 58) #[] #[]] W fun e w' => e = .returned (.bool true) ∧ Fr N0 W w' := by
  obtain ⟨len, l1, l2⟩ := hb.lens hc lawU hFG Tryz.underlying120 Tryz.underlying120
  have HFG := Lib.hid hFG; have HE := Lib.hid hE; have HC := Lib.hid hc
  have hbl := hb.lt
  clear hFG hE hc
  go_enter Tryz.func57, Tryz.ntmps57
  go_wp2_with (first
    | (at_len; with_reducible refine wpList_lenF _ rfl _ 120 rfl b len rfl l1 ?_)
    | (at_len; with_reducible refine wpList_lenF _ rfl _ 120 rfl c len rfl l2 ?_)
    | (at_range; go_loud (refine wpList_rangeF2 _ rfl _ 120 rfl 33 34 lawU Tryz.underlying120 b n F rfl hb ?_); intro w0 cnt0 hc0 hrg0 hf0 hs0))
  go_frame
  clear l1 l2
  go_loopw [] (fun wr => ∃ (left : Lit → Bool) (cnt : Nat), MapR Tryz.prog 33 wr b W.heap.size n F left cnt ∧ Hid (∀ kl, left kl = true → (F kl).isSome = true) ∧ Fr N0 W wr) (fun wr => wr.rangeLeft b W.heap.size)
  case atStart => exact ⟨_, cnt0, hrg0, fun kl h => h, hf0⟩
  case round =>
    obtain ⟨left, cnt, hrg, hl, hfr⟩ := hrel
    go_wp2_with (at_next; go_loud (refine wpList_nextF _ rfl _ rfl 33 lawU (fun x : Int => Value.int .u64 x) (fun v : Value => v) (fun _ _ => invU) b W.heap.size n F left cnt (fun _ v _ => ⟨v, rfl⟩) hl.out rfl hrg ?_ ?_))
    · intro _ _
      go_wp2
      go_ret
      exact ⟨rfl, hfr⟩
    · intro x v kl w' cnt' hkey hlk hF hrg' hlt hfr' hsz hen
      have hfw := fr_range hfr hfr' (Nat.le_refl _)
      obtain ⟨u, hG⟩ : ∃ u, G kl = some u := by
        have := HFG.out kl
        rw [hF] at this
        exact Option.isSome_iff_exists.1 this.symm
      have hlook := ((HC.out).fr hfw id).look_some lawU Tryz.underlying120 (zeroWsR _) hkey hG
      have hcall := HE.out kl v u hF hG w' hfw
      have HK := Lib.hid hkey; have HLK := Lib.hid hlk; have HF := Lib.hid hF; have HCALL := Lib.hid hcall; have HG := Lib.hid hG; have HRG := Lib.hid hrg'
      clear hkey hlk hF hcall hG hrg'
      go_wp2_with (go_at_call 58; go_loud (refine HCALL.out.mono ?_); rintro e w2 ⟨rfl, hf2⟩)
      have hr2 := HRG.out.fr hf2 id id
      go_roundw
      case rel => exact ⟨_, cnt', hr2, left_next hl.out, hfw.then0 hf2⟩
      case measure => rw [hr2.left_eq, hrg.left_eq]; omega
end Go.Proofs.YtefepfiijoafbaaGreat
namespace Go.Proofs.YtefepfiijoafbaaGreat
set_option linter.unusedVariables false
set_option linter.unusedSimpArgs false

theorem list_tear {α : Type} (d : α) : ∀ l : List α, (List.range l.length).map (fun i => l.getD i d) = l := fun l => by
  apply List.ext_getElem (by simp)
  intro i h1 h2
  simp at h1
  simp [h1]
theorem cut_mk {n : Nat} {ds : List Deferred} (tm : Array Value) (hs : tm.size = n) : ({ tmps := tm, defers := ds } : Act) = { tmps := ((List.range n).map fun i => tm.getD i (.bool false)).toArray, defers := ds } := by
  subst hs
  have h := list_tear (Value.bool false) tm.toList
  have : ((List.range tm.size).map fun i => tm.getD i (.bool false)) = tm.toList := by
    rw [← h]
    simp [Array.getD_eq_getD_getElem?]
  rw [this]
/-- The frame by a function. -/
def frA (n : Nat) (f : Nat → Value) : Act := { tmps := ((List.range n).map f).toArray, defers := [] }
theorem cut_use {n : Nat} {K : Act → World → Prop} {W : World} (tm : Array Value) (hs : tm.size = n) (h : K (frA n fun i => tm.getD i (.bool false)) W) : K { tmps := tm, defers := [] } W := by
  rw [cut_mk tm hs]; exact h
theorem cut_useQ {n : Nat} {Q : Exit → Act → World → Prop} {e : Exit} {W : World} (tm : Array Value) (hs : tm.size = n) (h : Q e (frA n fun i => tm.getD i (.bool false)) W) : Q e { tmps := tm, defers := [] } W := by
  rw [cut_mk tm hs]; exact h
theorem wp_frA {n : Nat} {P : Program} {c : Code} {Q : Exit → Act → World → Prop} {W : World} (tm : Array Value) (hs : tm.size = n) (h : Code.wp P c Q (frA n fun i => tm.getD i (.bool false)) W) : Code.wp P c Q { tmps := tm, defers := [] } W := by
  rw [cut_mk tm hs]; exact h
/-- The pieces of a text. -/
def lvSuf : Nat → Code → Code
  | 0, c => c
  | n + 1, .seq _ b => lvSuf n b
  | _ + 1, c => c
def lvFst : Code → Code
  | .seq a _ => a
  | c => c
/-- A drawn region: no other end than the normal one. -/
theorem wp_plainQ {P : Program} {c : Code} {K : Act → World → Prop} {Q : Exit → Act → World → Prop} {a : Act} {W : World} (h : Code.wp P c (Exit.then (fun a' W' => K a' W') (fun _ _ _ => False)) a W) : Code.wp P c (Exit.then K Q) a W :=
  Code.wp_mono (Q := Exit.then (fun a' W' => K a' W') (fun _ _ _ => False)) (fun e a' W' h => by
    cases e
    case normal => exact h
    all_goals exact (h : False).elim) h
theorem wp_plainN {P : Program} {c : Code} {Q : Exit → Act → World → Prop} {a : Act} {W : World} (h : Code.wp P c (Exit.then (fun a' W' => Q .normal a' W') (fun _ _ _ => False)) a W) : Code.wp P c Q a W :=
  Code.wp_mono (Q := Exit.then (fun a' W' => Q .normal a' W') (fun _ _ _ => False)) (fun e a' W' h => by
    cases e
    case normal => exact h
    all_goals exact (h : False).elim) h
end Go.Proofs.YtefepfiijoafbaaGreat
namespace Go.Proofs.YtefepfiijoafbaaGreat
open Go.RowKit Go.Shelf Go.Maps
attribute [local go_sem] Oper.semAt_some
attribute [local irreducible] wpQuiet
set_option linter.unusedVariables false
set_option linter.unusedSimpArgs false

theorem val_info : (Tryz.prog.info? 57).map (fun i => (i.zero, i.size, i.bytes)) = some (some (.agg #[.int .u8 0, .bool false, .int .i64 0, .string ⟨#[]⟩, .int .u64 0]), 5, 40) := by kernel_rfl
theorem val_len (x : Val) : (Val.enc x).length = 5 := rfl
theorem val_one (x : Val) : ∀ u ∈ x.enc, u.oneCell' = true := by intro u hu; simp [Val.enc] at hu; rcases hu with h | h | h | h | h <;> subst h <;> rfl

set_option maxRecDepth 100000 in
set_option maxHeartbeats 2000000 in
/-- slices.Clone at values. -/
theorem cloneV_any (w : World) (b : Nat) (v : Value) (xs : List Val) (h : RowsK Val.enc 5 w b v xs) (hl : xs.length ≤ 1000000) :
    Calls Tryz.prog 154 #[v] w fun e w' => ∃ v', e = .returned v' ∧ w'.ownsRow w.heap.size 57 5 v' xs.length (xs.flatMap Val.enc) ∧ (v = .slice none 0 0 → v' = .slice none 0 0) ∧ Fr N0 w w' := by
  obtain ⟨i0, hi, hz0, hz1, hz2⟩ := info_parts val_info
  have h' := h
  have hq := fun (w : World) a n c => Lib.run_eql_slice_nil (P := Tryz.prog) w 91 57 a n c 0 0 Tryz.underlying91
  obtain ⟨a, off, cap, rfl, h1, h2, h3, h4, h5⟩ := h
  cases a with
  | none =>
    have hc := h4 rfl
    subst hc
    obtain rfl : xs = [] := List.eq_nil_of_length_eq_zero (by omega)
    go_enter Tryz.func154, Tryz.ntmps154
    go_wp2
    go_ret
    exact ⟨_, rfl, World.ownsRow_nil _ _ _ _, by simp, Fr.refl _ _⟩
  | some a =>
    have hnews := rows_news (enc := Val.enc) (n := 5) val_len (by decide) h'
    clear h' h3 h4 h5
    have hnews' : ∀ (j : Nat) (u : Value), (xs.flatMap Val.enc)[j]? = some u → (w.alloc (.cells #[] 57)).cell? (a.add j) = some u := fun j u hu =>
      ((Fr.refl N0 w).alloc _).cell (fun h => h) (hnews j u hu)
    have hown := World.ownsRow_lit (base := w.heap.size) (e := 57) (size := 5) w #[] 0 (Nat.le_refl _) (by simp [maxLen]) rfl
    have hlen : (xs.flatMap Val.enc).length = xs.length * 5 := flat_length (enc := Val.enc) (n := 5) val_len xs
    have HN := Lib.hid hnews'; have HO := Lib.hid hown; have HL := Lib.hid hlen
    clear hnews hnews' hown hlen
    go_enter Tryz.func154, Tryz.ntmps154
    go_wp2_with (at_builtin; go_loud (refine wpList_append_own _ rfl _ _ 91 rfl w.heap.size 57 i0 (.agg #[.int .u8 0, .bool false, .int .i64 0, .string ⟨#[]⟩, .int .u64 0]) 5 40 Tryz.underlying91 hi hz0 hz1 hz2 rfl (by decide) _ _ _ rfl HO.out a xs.length cap (xs.flatMap Val.enc) rfl HL.out HN.out (one_cells val_one xs) (by unfold maxLen; omega) (by omega) (by simp) ?_); intro v' w1 hown' hgrow _)
    go_ret
    refine ⟨v', rfl, by simpa using hown', ((Fr.refl _ _).alloc _).grown hgrow (fun k e => .inr ?_)⟩
    have e' : some w.heap.size = some k := e
    cases e'; exact Nat.le_refl _

theorem row_of_block {α : Type} {enc : α → List Value} {n : Nat} (x : α) {W : World} {g : Nat} {cs : Array Value} {t : TypeId} (h : W.heap[g]? = some (.cells cs t (0, 0))) (hcs : cs = (enc x).toArray) : RowsK enc n W g (.slice (some ⟨g, 0, none⟩) 1 1) [x] :=
  ⟨some ⟨g, 0, none⟩, 0, 1, rfl, Nat.le_refl _, by omega, fun _ => rfl, by simp, fun i hi c hc => by
    have : i = 0 := by simp at hi; exact hi
    subst this
    rw [(box_cells h).1, hcs]
    simp⟩
theorem zeroValsR : ∀ w, (zeroValue 91).run Tryz.prog w = .ok (.slice none 0 0) w := fun w => by kernel_rfl
end Go.Proofs.YtefepfiijoafbaaGreat
