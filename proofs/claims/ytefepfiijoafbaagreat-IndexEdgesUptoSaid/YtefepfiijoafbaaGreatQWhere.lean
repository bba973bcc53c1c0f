/- slices.IndexFunc, ContainsFunc at values. (Printed by mkvalf.py from XWrites.) slices.Sort at uint64, on an owned row. index.look.where: the nodes that have a value of which p is so. -/
import Derived.Test.YtefepfiijoafbaaGreatQDelW
import Derived.Test.YtefepfiijoafbaaGreatQValR
import Derived.Test.YtefepfiijoafbaaGreatQIterH
import Derived.Test.YtefepfiijoafbaaGreatQIAt2
namespace Go.Proofs.YtefepfiijoafbaaGreat
open Go.RowKit Go.Shelf Go.Maps Go.Sort
attribute [local go_sem] Oper.semAt_some
attribute [local irreducible] wpQuiet
set_option linter.unusedVariables false
set_option linter.unusedSimpArgs false

/-- A function value that answers p at each of some values, from a world on, and changes nothing that lay. -/
def PredV (w : World) (gf : FuncId) (lb : Array Value) (xs : List Val) (p : Val → Bool) : Prop :=
  ∀ x ∈ xs, ∀ W, Fr N0 w W → Calls Tryz.prog gf (#[.agg x.enc.toArray] ++ lb) W fun e w' => e = .returned (.bool (p x)) ∧ Fr N0 W w'

set_option maxRecDepth 100000 in
set_option maxHeartbeats 2000000 in
theorem idxFV_any (w : World) (b : Nat) (v : Value) (xs : List Val) (h : RowsK Val.enc 5 w b v xs) (hl : xs.length ≤ 10000000000) (gf : FuncId) (lb : Array Value) (p : Val → Bool) (hp : PredV w gf lb xs p)
    (eg : ∀ args w, (callFunc gf args).run Tryz.prog w = .ok (.enter gf args) w) :
    Calls Tryz.prog 248 #[v, .func (.func gf) #[] lb] w fun e w' => e = .returned (.int .i64 (idxW xs p)) ∧ Fr N0 w w' := by
  obtain ⟨a, off, cap, rfl, h1, h2, h3, h4, h5⟩ := h
  have HC := Lib.hid h5; have HP := Lib.hid hp; clear h5 hp h4
  go_enter Tryz.func248, Tryz.ntmps248
  go_wp2
  go_loopw [8] (fun i wr => ∃ k : Nat, k ≤ xs.length ∧ i = .int .i64 k ∧ Hid (∀ j (h : j < xs.length), j < k → p xs[j] = false) ∧ Fr N0 w wr) (fun i _ => xs.length - (intOf i).toNat)
  case atStart => exact ⟨0, Nat.zero_le _, rfl, fun j h hj => by omega, Fr.refl _ _⟩
  case round =>
    obtain ⟨k, hk, rfl, hn, hfr⟩ := hrel
    by_cases hlt : k < xs.length
    · obtain rfl := h3 (by omega)
      have e5 := HC.out k hlt
      have c0 := e5 0 (by decide); have c1 := e5 1 (by decide); have c2 := e5 2 (by decide); have c3 := e5 3 (by decide); have c4 := e5 4 (by decide)
      rw [Nat.add_zero] at c0
      have hcall := HP.out xs[k] (List.getElem_mem hlt)
      have hnx : p xs[k] = false → ∀ j (h : j < xs.length), j < k + 1 → p xs[j] = false := fun he j h hj => by
        rcases Nat.lt_or_ge j k with h' | h'
        · exact hn.out j h h'
        · have : j = k := by omega
          subst this; exact he
      have hfd : p xs[k] = true → idxW xs p = k := fun he => idxW_at hlt hn.out he
      obtain ⟨x, hx⟩ : ∃ x, xs[k] = x := ⟨_, rfl⟩
      simp only [hx] at c0 c1 c2 c3 c4 hcall hnx hfd
      obtain ⟨q, hq⟩ : ∃ q, p x = q := ⟨_, rfl⟩
      rw [hq] at hcall hnx hfd
      obtain ⟨vk, vb, vn, vs, vu⟩ := x
      unfold Val.enc at hcall
      simp only [Val.enc, List.getElem?_cons_zero, List.getElem?_cons_succ] at c0 c1 c2 c3 c4 hcall
      replace c0 := hfr.cell id c0; replace c1 := hfr.cell id c1; replace c2 := hfr.cell id c2; replace c3 := hfr.cell id c3; replace c4 := hfr.cell id c4
      have hki : (k : Int) < (xs.length : Int) := by omega
      have HX := Lib.hid hcall; have HNX := Lib.hid hnx; have HFD := Lib.hid hfd
      clear hcall hx hq hnx hfd hn
      cases q with
      | true =>
        have hF := Lib.hid (HFD.out rfl)
        clear HFD HNX
        go_wp2_with (refine (HX.out _ hfr).mono ?_; rintro e w1 ⟨rfl, hf1⟩)
        go_ret
        exact ⟨ret_int hF.out.symm, hfr.then0 hf1⟩
      | false =>
        have hF := Lib.hid (HNX.out rfl)
        clear HFD HNX
        go_wp2_with (refine (HX.out _ hfr).mono ?_; rintro e w1 ⟨rfl, hf1⟩)
        go_roundw
        case rel => exact ⟨k + 1, by omega, by go_num, hF.out, hfr.then0 hf1⟩
        case measure => simp [intOf]; omega
    · obtain rfl : k = xs.length := by omega
      have hF := Lib.hid (idxW_none hn.out)
      clear hn
      go_wp2
      go_ret
      exact ⟨ret_int hF.out.symm, hfr⟩

set_option maxRecDepth 100000 in
set_option maxHeartbeats 1000000 in
theorem contFV_any (w : World) (b : Nat) (v : Value) (xs : List Val) (h : RowsK Val.enc 5 w b v xs) (hl : xs.length ≤ 10000000000) (gf : FuncId) (lb : Array Value) (p : Val → Bool) (hp : PredV w gf lb xs p)
    (eg : ∀ args w, (callFunc gf args).run Tryz.prog w = .ok (.enter gf args) w) :
    Calls Tryz.prog 213 #[v, .func (.func gf) #[] lb] w fun e w' => e = .returned (.bool (xs.any p)) ∧ Fr N0 w w' := by
  have hc := idxFV_any w b v xs h hl gf lb p hp eg
  have HC := Lib.hid hc
  clear hc hp h
  go_enter Tryz.func213, Tryz.ntmps213
  go_wp2_with (go_at_call 248; go_loud (refine HC.out.mono ?_); rintro e w1 ⟨rfl, hf1⟩)
  go_ret
  exact ⟨ret_bool idxW_ge, hf1⟩
end Go.Proofs.YtefepfiijoafbaaGreat
namespace Go.Proofs.YtefepfiijoafbaaGreat
open Go.RowKit Go.Shelf Go.Sort Go.Maps
set_option linter.unusedVariables false
set_option linter.unusedSimpArgs false
theorem sort4_any (w : World) (base : Nat) (v : Value) (xs : List Int) (h : w.ownsRow base 33 1 v xs.length (xs.map (Value.int .u64))) (hl : xs.length ≤ 17592186044416) :
    Calls Tryz.prog 84 #[v] w fun e w' => e = .returned (.tuple #[]) ∧ w'.ownsRow base 33 1 v xs.length ((xs.mergeSort fun x y => decide (x ≤ y)).map (Value.int .u64)) ∧ Fr (fun k => v.ownBlock = some k) w w' := by
  have h' := h
  rcases h.2 with ⟨rfl, h0⟩ | ⟨g, cap, cur, rfl, hb, hg, hnc, hcm, hcs, htake⟩
  · obtain rfl : xs = [] := List.eq_nil_of_length_eq_zero h0
    refine (U.Sort_int_nil none 0 w).mono ?_
    rintro e w' ⟨rfl, rfl⟩
    exact ⟨rfl, by simpa using h', Fr.refl _ _⟩
  · have hH := holds_of_block_u6 (ss := xs) hg (by simpa using htake)
    refine (U.slices_Sort_int g 0 cap xs w hH (lt_of_block hg) (by omega)).mono ?_
    rintro e w' ⟨rfl, n, os, rfl⟩
    exact ⟨rfl, ownsRow_sorted_u6 (n := n) (os := os) (base := base) (ts := xs.mergeSort fun x y => decide (x ≤ y)) (ss := xs) (by simp) hb hg hnc hcm (by simpa using hcs), (Fr.refl _ _).grown (grownBy_sorted_u6 _) fun k hk => .inl (by simpa [Value.ownBlock] using hk)⟩
end Go.Proofs.YtefepfiijoafbaaGreat
namespace Go.Proofs.YtefepfiijoafbaaGreat
open Go.RowKit Go.Shelf Go.Maps Go.Sort
attribute [local go_sem] Oper.semAt_some
attribute [local irreducible] wpQuiet
set_option linter.unusedVariables false
set_option linter.unusedSimpArgs false

/-- Those of the keys gone over of which p is so. -/
def Picked (F : Lit → Option Value) (left : Lit → Bool) (p : Int → Bool) (os : List Int) : Prop := os.Nodup ∧ ∀ u, u ∈ os ↔ ((F (litU u)).isSome = true ∧ left (litU u) = false ∧ p u = true)
theorem picked_start (F : Lit → Option Value) (p : Int → Bool) : Picked F (fun kl => (F kl).isSome) p [] := ⟨List.nodup_nil, fun u => ⟨fun h => (by cases h), fun h => (by have h1 := h.1; have h2 : (F (litU u)).isSome = false := h.2.1; rw [h1] at h2; cases h2)⟩⟩
theorem picked_yes {F : Lit → Option Value} {left : Lit → Bool} {p : Int → Bool} {os : List Int} {x : Int} (h : Picked F left p os) (hl : left (litU x) = true) (hF : (F (litU x)).isSome = true) (hp : p x = true) : Picked F (fun z => left z && !z.sameKey (litU x)) p (os ++ [x]) := by
  have hx : x ∉ os := fun hx => by have := ((h.2 x).1 hx).2.1; rw [hl] at this; cases this
  refine ⟨List.nodup_append.2 ⟨h.1, by simp, fun a ha b hb e => by simp at hb; subst hb; exact hx (e ▸ ha)⟩, fun u => ?_⟩
  rw [List.mem_append, h.2]
  by_cases e : u = x
  · subst e
    simp [hF, hp, Lit.sameKey]
  · have hs : (litU u).sameKey (litU x) = false := sameKey_ne (fun h => e (litU_inj h))
    simp [hs, e]
theorem picked_no {F : Lit → Option Value} {left : Lit → Bool} {p : Int → Bool} {os : List Int} {x : Int} (h : Picked F left p os) (hl : left (litU x) = true) (hp : p x = false) : Picked F (fun z => left z && !z.sameKey (litU x)) p os := by
  refine ⟨h.1, fun u => ?_⟩
  rw [h.2]
  by_cases e : u = x
  · subst e
    simp [hl, hp]
  · have hs : (litU u).sameKey (litU x) = false := sameKey_ne (fun h => e (litU_inj h))
    simp [hs]
/-- A row of numbers of its own. -/
def NewInts (W : World) (P : Int → Prop) (e : Ending) (w' : World) : Prop := ∃ v xs, e = .returned v ∧ w'.ownsRow W.heap.size 33 1 v xs.length (xs.map (Value.int .u64)) ∧ RisesBy id xs ∧ (∀ u, u ∈ xs ↔ P u) ∧ Fr N0 W w'
def slv (c : Option Addr × Nat × Nat) : Value := .slice c.1 c.2.1 c.2.2
theorem HRows.slv {α : Type} {enc : α → List Value} {k : Nat} {W : World} {lo b : Nat} {H : Int → List α} {F : Lit → Option Value} (h : HRows enc k W lo b H F) : ∀ kl v, F kl = some v → ∃ c, v = slv c := fun kl v hv => by
  obtain ⟨u, -, -, g, -, -, -, a, off, cap, rfl, -⟩ := h.1 kl v hv
  exact ⟨(a, _, cap), rfl⟩

set_option maxRecDepth 100000 in
set_option maxHeartbeats 4000000 in
theorem where_any (W : World) (lo px bn bb N : Nat) (H : Int → List Val) (B : Int → List Int) (h : LookAt W lo px bn bb N H B) (hH : HOk H N) (hN : N ≤ 9000000000) (gf : FuncId) (lb : Array Value) (p : Val → Bool) (hp : ∀ u, PredV W gf lb (H u) p)
    (eg : ∀ args w, (callFunc gf args).run Tryz.prog w = .ok (.enter gf args) w) :
    Calls Tryz.prog 159 #[.pointer (some ⟨px, 0, none⟩), .func (.func gf) #[] lb] W (NewInts W fun u => (H u).any p = true) := by
  obtain ⟨F, hm, hr⟩ := h.nodes
  obtain ⟨i0, hi, hz0, hz1, hz2⟩ := info_parts ins4_info
  have cx := h.cx.1
  have hbl := hm.lt
  have hat : ∀ kl v, F kl = some v → ∃ u, kl = litU u ∧ ∃ g, g < W.heap.size ∧ RowsK Val.enc 5 W g v (H u) := fun kl v hv => by
    obtain ⟨u, e, h0, g, h1, h2, h3, h4⟩ := hr.1 kl v hv
    exact ⟨u, e, g, h3, h4⟩
  have hcon := fun w' (hf : Fr N0 W w') u g v (hr : RowsK Val.enc 5 w' g v (H u)) => contFV_any w' g v (H u) hr (by have := hH.len u; omega) gf lb p (fun x hx W' hW' => hp u x hx W' (hf.then0 hW')) eg
  have hsl := hr.slv
  have hfin : ∀ os (left : Lit → Bool), Picked F left (fun u => (H u).any p) os → (∀ kl, left kl = false) → ∀ u, u ∈ os ↔ (H u).any p = true := fun os left hpk hl u => by
    rw [hpk.2]
    constructor
    · exact fun h => h.2.2
    · intro h
      refine ⟨hr.2 u fun e => ?_, hl _, h⟩
      rw [e] at h; simp at h
  have HAT := Lib.hid hat; have HCON := Lib.hid hcon; have HSL := Lib.hid hsl; have HFIN := Lib.hid hfin; have HR := Lib.hid hr
  clear hat hcon hsl hfin hr h hH hp
  go_enter Tryz.func159, Tryz.ntmps159
  go_wp2_with (at_range; go_loud (refine wpList_rangeF2 _ rfl _ 165 rfl 33 91 lawU Tryz.underlying165 bn N F rfl hm ?_); intro w0 cnt0 hc0 hrg0 hf0 hs0)
  go_frame
  go_loopw [5] (fun ov wr => ∃ (left : Lit → Bool) (cnt k : Nat) (os : List Int), Hid (MapR Tryz.prog 33 wr bn W.heap.size N F left cnt) ∧ Hid (∀ kl, left kl = true → (F kl).isSome = true) ∧ Hid (Picked F left (fun u => (H u).any p) os) ∧ Hid (os.length = k ∧ k + cnt ≤ N) ∧ Hid (wr.ownsRow (W.heap.size + 1) 33 1 ov k (os.map (Value.int .u64))) ∧ Hid (Fr N0 W wr) ∧ W.heap.size + 1 ≤ wr.heap.size) (fun _ wr => wr.rangeLeft bn W.heap.size)
  case atStart => exact ⟨_, cnt0, 0, [], hrg0, fun kl h => h, picked_start F _, ⟨rfl, by omega⟩, World.ownsRow_nil _ _ _ _, hf0, by omega⟩
  case round =>
    obtain ⟨left, cnt, k, os, hrg, hl, hpk, hos, hrow, hfr, hsz⟩ := hrel
    obtain ⟨oa, oc, rfl⟩ := row_form hrow.out
    go_wp2_with (at_next; go_loud (refine wpList_nextF _ rfl _ rfl 33 lawU (fun x : Int => Value.int .u64 x) slv (fun _ _ => invU) bn W.heap.size N F left cnt HSL.out hl.out rfl hrg.out ?_ ?_))
    · intro hc0' hl0'
      have hso := sort4_any wr (W.heap.size + 1) (.slice oa k oc) os (by rw [hos.out.1]; exact hrow.out) (by have := hos.out; omega)
      have hmem := HFIN.out os left hpk.out hl0'
      have HSO := Lib.hid hso; have HMEM := Lib.hid hmem
      have hlo := fun j hj => (ownsRow_lt hrow.out j hj).1
      have HLO := Lib.hid hlo
      clear hso hmem hlo hrg
      go_wp2_with (go_at_call 84; refine HSO.out.mono ?_; rintro e w2 ⟨rfl, hrow2, hf2⟩)
      go_ret
      have hl2 : (os.mergeSort fun x y => decide (x ≤ y)).length = os.length := (List.mergeSort_perm os _).length_eq
      refine ⟨_, _, rfl, ownsRow_base (by rw [hl2]; exact hrow2) (by omega), rises_mergeSort hpk.out.1, fun u => ?_, hfr.out.trans hf2 fun j hj => .inr (by have := HLO.out j hj; omega)⟩
      rw [(List.mergeSort_perm os _).mem_iff]
      exact HMEM.out u
    · intro x a1 n1 c1 kl w' cnt' hkey hlk hF hrg' hlt hfr' hsz' hen
      obtain ⟨x', ex, rfl, hwf⟩ := Maps.keyOf_int_inv Tryz.underlying33 hkey
      injection ex with ex1 ex2
      subst ex2
      have hfw := fr_range hfr.out hfr' (Nat.le_refl _)
      obtain ⟨u, eu, g, hg, hrx⟩ := HAT.out _ _ hF
      obtain rfl := litU_inj eu
      have hcall := HCON.out w' hfw x g (slv (a1, n1, c1)) (rowsK_frT (enc := Val.enc) (n := 5) val_len hrx hfw fun _ => id)
      have hrow' : w'.ownsRow (W.heap.size + 1) 33 1 (.slice oa k oc) k (os.map (Value.int .u64)) := ownsRow_fr hrow.out hfr' fun j hj e => by have := (ownsRow_lt hrow.out j hj).1; omega
      have hFs : (F (litU x)).isSome = true := by rw [show litU x = Lit.int .u64 x from rfl, hF]; rfl
      obtain ⟨q, hq⟩ : ∃ q, (H x).any p = q := ⟨_, rfl⟩
      rw [hq] at hcall
      have hz' := hfr'.size
      have hok := hos.out
      have HC := Lib.hid hcall; have HRW := Lib.hid hrow'; have HFW := Lib.hid hfw; have HRG := Lib.hid hrg'; have HLT := Lib.hid hlt
      cases q with
      | true =>
        have hpk2 := picked_yes hpk.out hlk hFs hq
        have HPK := Lib.hid hpk2
        clear hcall hrow' hfw hrg' hlt hpk2 hkey hlk hF hFs hq hrx hwf hrow hpk hfr'
        go_wp2_with (first
          | (go_at_call 213; refine HC.out.mono ?_; rintro e w2 ⟨rfl, hf2⟩; have hrow2 := HRW.out.fr0 hf2; have hzz2 := hf2.size)
          | (at_builtin; go_loud (refine wpList_append_lies _ rfl _ _ 35 rfl (W.heap.size + 1) 33 i0 (.int .u64 0) 1 8 Tryz.underlying35 hi hz0 hz1 hz2 rfl (by decide) (.slice oa k oc) (k) _ rfl (hrow2.alloc _) ⟨w2.heap.size, 0, none⟩ 1 1 [.int .u64 x] rfl rfl (World.news_of_block (cs := #[.int .u64 x]) (t := 33) (fr := (0, 0)) (heap_alloc_new w2 _)) (by simp [Value.oneCell']) (by omega) (by unfold maxLen; omega) (by omega) (by simp; omega) (w2.heap.size + 1) (by simp) ?_); intro g1 cap1 w3 hown3 hgrow3 hfresh3 hlt3))
        go_roundw
        case rel =>
          have hfa : Fr (fun j => (Value.slice oa k oc).ownBlock = some j) _ w3 := (Fr.refl _ _).grown hgrow3 fun j e => .inl e
          refine ⟨_, cnt', k + 1, os ++ [x], ?_, left_next hl.out, HPK.out, ⟨by simp [hok.1], by have := HLT.out; have := hok.2; omega⟩, Lib.hid (by simpa using hown3), ?_, by have := hfa.size; simp at this; omega⟩
          · exact (HRG.out.fr (hf2.alloc _) id id).fr hfa (fun e => by have := (ownsRow_lt hrow2 _ e).1; omega) (fun e => by have := (ownsRow_lt hrow2 _ e).1; omega)
          · exact ((HFW.out.then0 hf2).alloc _).trans hfa fun j hj => .inr (by have := (ownsRow_lt hrow2 _ hj).1; omega)
        case measure =>
          have hfa : Fr (fun j => (Value.slice oa k oc).ownBlock = some j) _ w3 := (Fr.refl _ _).grown hgrow3 fun j e => .inl e
          rw [((HRG.out.fr (hf2.alloc _) id id).fr hfa (fun e => by have := (ownsRow_lt hrow2 _ e).1; omega) (fun e => by have := (ownsRow_lt hrow2 _ e).1; omega)).left_eq, hrg.out.left_eq]; exact HLT.out
      | false =>
        have hpk2 := picked_no hpk.out hlk hq
        have HPK := Lib.hid hpk2
        clear hcall hrow' hfw hrg' hlt hpk2 hkey hlk hF hFs hq hrx hwf hrow hpk hfr'
        go_wp2_with (go_at_call 213; refine HC.out.mono ?_; rintro e w2 ⟨rfl, hf2⟩)
        go_roundw
        case rel => exact ⟨_, cnt', k, os, HRG.out.fr hf2 id id, left_next hl.out, HPK.out, ⟨hok.1, by have := HLT.out; have := hok.2; omega⟩, HRW.out.fr0 hf2, HFW.out.then0 hf2, by have := hf2.size; omega⟩
        case measure => rw [(HRG.out.fr hf2 id id).left_eq, hrg.out.left_eq]; exact HLT.out
end Go.Proofs.YtefepfiijoafbaaGreat
