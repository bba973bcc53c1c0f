/- post.List.Values and Backs, in general. index.Edges and Count, where they answer. -/
import Derived.Test.YtefepfiijoafbaaGreatQLookP
import Derived.Test.YtefepfiijoafbaaGreatQWhere
import Derived.Test.YtefepfiijoafbaaGreatQFndB
import Derived.Test.YtefepfiijoafbaaGreatQValR
import Derived.Test.YtefepfiijoafbaaGreatQOrdP
import Derived.Test.YtefepfiijoafbaaGreatQLxO
namespace Go.Proofs.YtefepfiijoafbaaGreat
open Go.RowKit Go.Shelf Go.Maps Go.Sort
attribute [local go_sem] Oper.semAt_some
attribute [local irreducible] wpQuiet
set_option linter.unusedVariables false
set_option linter.unusedSimpArgs false

set_option maxRecDepth 100000 in
set_option maxHeartbeats 2000000 in
theorem pVals_any (W : World) (R : Nat → Prop) (p : Nat) (l : PL) (N : Nat) (h : IsPL W R p l) (hl : l.AtOk N) (hN : N ≤ 8000000000) (u t : Int) (hu : (Lit.int .u64 u).wf = true) :
    Calls Tryz.prog 102 #[.pointer (some ⟨p, 0, none⟩), .int .u64 u, .int .u64 t] W fun e w' => ∃ v', e = .returned v' ∧ w'.ownsRow W.heap.size 57 5 v' (haveAt l t u).length ((haveAt l t u).flatMap Val.enc) ∧ Fr N0 W w' := by
  have ha := pAt_any W R p l N h hl hN t
  have hku := keyOf_int_mk Tryz.underlying33 hu
  have hlen := (haveAt_ok hl t).len u
  obtain ⟨H, hH⟩ : ∃ H, haveAt l t = H := ⟨_, rfl⟩
  rw [hH] at ha hlen ⊢
  have HA := Lib.hid ha; have HKU := Lib.hid hku
  clear ha hku h hl hH
  go_enter Tryz.func102, Tryz.ntmps102
  go_wp2_with fail
  refine HA.out.mono ?_
  rintro e w1 ⟨b, rfl, ⟨hb, F, hm, hr⟩, hf1⟩
  obtain ⟨g, hg, -⟩ := hr.at u
  have hlk := (hm.look lawU Tryz.underlying183 (zeroValsR _) HKU.out).1
  rw [show Lit.int .u64 u = litU u from rfl] at hlk
  obtain ⟨v, hv⟩ : ∃ v, (F (litU u)).getD (.slice none 0 0) = v := ⟨_, rfl⟩
  rw [hv] at hg
  replace hlk : (Instr.lookup 183 (.map (some b)) (.int .u64 u) false).run Tryz.prog w1 = .ok v w1 := by rw [← hv]; exact hlk
  have hcl := cloneV_any w1 g v (H u) hg (by omega)
  have HCL := Lib.hid hcl; have HF1 := Lib.hid hf1
  clear hcl hg hr hm hf1 hv
  go_wp2_with (go_at_call 154; refine HCL.out.mono ?_; rintro e w2 ⟨v', rfl, hrow, -, hf2⟩)
  go_ret
  exact ⟨v', rfl, ownsRow_base hrow HF1.out.size, HF1.out.then0 hf2⟩

set_option maxRecDepth 100000 in
set_option maxHeartbeats 4000000 in
theorem pBacks_any (W : World) (R : Nat → Prop) (p : Nat) (l : PL) (N : Nat) (h : IsPL W R p l) (hl : l.AtOk N) (hN : N ≤ 8000000000) (y : Val) (t : Int) :
    Calls Tryz.prog 101 #[.pointer (some ⟨p, 0, none⟩), .agg y.enc.toArray, .int .u64 t] W (NewInts W (fun u => (haveAt l t u).any (eqVal y) = true)) := by
  obtain ⟨i0, hi, hz0, hz1, hz2⟩ := info_parts ins4_info
  obtain ⟨w0, hw0⟩ : ∃ w0, W.alloc (.cells y.enc.toArray 57) = w0 := ⟨_, rfl⟩
  have hf0 : Fr N0 W w0 := by rw [← hw0]; exact (Fr.refl _ _).alloc _
  have hb0 : w0.heap[W.heap.size]? = some (.cells y.enc.toArray 57 (0, 0)) := by rw [← hw0]; exact World.alloc_heap_new W _
  have hat := pAt_any w0 R p l N (h.fr hf0 fun _ _ => id) hl hN t
  have hok := haveAt_ok hl t
  obtain ⟨H, hH⟩ : ∃ H, haveAt l t = H := ⟨_, rfl⟩
  rw [hH] at hat hok
  have hgl : ∀ u, haveAt l t u = H u := fun u => by rw [hH]
  simp only [hgl]
  clear hgl
  obtain ⟨q, hq⟩ : ∃ q, eqVal y = q := ⟨_, rfl⟩
  have hcon0 := fun w' g v u (hr : RowsK Val.enc 5 w' g v (H u)) => contV_any w' g v (H u) hr (by have := hok.len u; omega) y
  rw [hq] at hcon0 ⊢
  obtain ⟨yk, yb, yn, ys, yu⟩ := y
  simp only [Val.enc] at hw0 hb0 hcon0 ⊢
  have HAT0 := Lib.hid hat; have HB0 := Lib.hid hb0; have HF0 := Lib.hid hf0; have HCON0 := Lib.hid hcon0
  have hl0 := lt_of_block hb0
  clear hat hb0 hf0 hcon0 h hl hH hq hok
  go_enter Tryz.func101, Tryz.ntmps101
  go_wp2_with fail
  try rw [hw0]
  clear hw0
  refine HAT0.out.mono ?_
  rintro e w1 ⟨bn, rfl, ⟨hbb, F, hm, hr⟩, hf1⟩
  have hbl := hm.lt
  have hB1 := (hf1.at (k := W.heap.size) id hl0).trans HB0.out
  have hat : ∀ kl v, F kl = some v → ∃ u, kl = litU u ∧ ∃ g, g < w1.heap.size ∧ RowsK Val.enc 5 w1 g v (H u) := fun kl v hv => by
    obtain ⟨u, e, h0, g, h1, h2, h3, h4⟩ := hr.1 kl v hv
    exact ⟨u, e, g, h3, h4⟩
  have hsl := hr.slv
  have hfin : ∀ os (left : Lit → Bool), Picked F left (fun u => (H u).any q) os → (∀ kl, left kl = false) → ∀ u, u ∈ os ↔ (H u).any q = true := fun os left hpk hl u => by
    rw [hpk.2]
    constructor
    · exact fun h => h.2.2
    · intro h
      refine ⟨hr.2 u fun e => ?_, hl _, h⟩
      rw [e] at h; simp at h
  have HAT := Lib.hid hat; have HSL := Lib.hid hsl; have HFIN := Lib.hid hfin; have HB1 := Lib.hid hB1; have HF1 := Lib.hid (HF0.out.then0 hf1)
  have hl1 : W.heap.size < w1.heap.size := lt_of_block hB1
  clear hat hsl hfin hr hB1 hf1 HAT0 HB0 HF0
  go_wp2_with (at_range; go_loud (refine wpList_rangeF2 _ rfl _ 183 rfl 33 91 lawU Tryz.underlying183 bn N F rfl hm ?_); intro w0' cnt0 hc0 hrg0 hf0' hs0)
  go_frame
  go_loopw [7] (fun ov wr => ∃ (left : Lit → Bool) (cnt k : Nat) (os : List Int), Hid (MapR Tryz.prog 33 wr bn w1.heap.size N F left cnt) ∧ Hid (∀ kl, left kl = true → (F kl).isSome = true) ∧ Hid (Picked F left (fun u => (H u).any q) os) ∧ Hid (os.length = k ∧ k + cnt ≤ N) ∧ Hid (wr.ownsRow (w1.heap.size + 1) 33 1 ov k (os.map (Value.int .u64))) ∧ Hid (Fr N0 w1 wr) ∧ w1.heap.size + 1 ≤ wr.heap.size) (fun _ wr => wr.rangeLeft bn w1.heap.size)
  case atStart => exact ⟨_, cnt0, 0, [], hrg0, fun kl h => h, picked_start F _, ⟨rfl, by omega⟩, World.ownsRow_nil _ _ _ _, hf0', by omega⟩
  case round =>
    obtain ⟨left, cnt, k, os, hrg, hl, hpk, hos, hrow, hfr, hsz⟩ := hrel
    obtain ⟨oa, oc, rfl⟩ := row_form hrow.out
    go_wp2_with (at_next; go_loud (refine wpList_nextF _ rfl _ rfl 33 lawU (fun x : Int => Value.int .u64 x) slv (fun _ _ => invU) bn w1.heap.size N F left cnt HSL.out hl.out rfl hrg.out ?_ ?_))
    · intro hc0' hl0'
      have hso := sort4_any wr (w1.heap.size + 1) (.slice oa k oc) os (by rw [hos.out.1]; exact hrow.out) (by have := hos.out; omega)
      have hmem := HFIN.out os left hpk.out hl0'
      have HSO := Lib.hid hso; have HMEM := Lib.hid hmem
      have hlo := fun j hj => (ownsRow_lt hrow.out j hj).1
      have HLO := Lib.hid hlo
      clear hso hmem hlo hrg
      go_wp2_with (go_at_call 84; refine HSO.out.mono ?_; rintro e w2 ⟨rfl, hrow2, hf2⟩)
      go_ret
      have hl2 : (os.mergeSort fun x y => decide (x ≤ y)).length = os.length := (List.mergeSort_perm os _).length_eq
      refine ⟨_, _, rfl, ownsRow_base (by rw [hl2]; exact hrow2) (by omega), rises_mergeSort hpk.out.1, fun u => ?_, (HF1.out.then0 hfr.out).trans hf2 fun j hj => .inr (by have := HLO.out j hj; omega)⟩
      rw [(List.mergeSort_perm os _).mem_iff]
      exact HMEM.out u
    · intro x a1 n1 c1 kl w' cnt' hkey hlk hF hrg' hlt hfr' hsz' hen
      obtain ⟨x', ex, rfl, hwf⟩ := Maps.keyOf_int_inv Tryz.underlying33 hkey
      injection ex with ex1 ex2
      subst ex2
      have hfw := fr_range hfr.out hfr' (Nat.le_refl _)
      obtain ⟨u, eu, g, hg, hrx⟩ := HAT.out _ _ hF
      obtain rfl := litU_inj eu
      have hcall := HCON0.out w' g (slv (a1, n1, c1)) x (rowsK_frT (enc := Val.enc) (n := 5) val_len hrx hfw fun _ => id)
      have hrow' : w'.ownsRow (w1.heap.size + 1) 33 1 (.slice oa k oc) k (os.map (Value.int .u64)) := ownsRow_fr hrow.out hfr' fun j hj e => by have := (ownsRow_lt hrow.out j hj).1; omega
      have hFs : (F (litU x)).isSome = true := by rw [show litU x = Lit.int .u64 x from rfl, hF]; rfl
      obtain ⟨mb, nb, lb⟩ := box_cells ((hfw.at (k := W.heap.size) id hl1).trans HB1.out)
      obtain ⟨z, hz⟩ : ∃ z, (H x).any q = z := ⟨_, rfl⟩
      rw [hz] at hcall
      have hz' := hfr'.size
      have hok := hos.out
      have HC := Lib.hid hcall; have HRW := Lib.hid hrow'; have HFW := Lib.hid hfw; have HRG := Lib.hid hrg'; have HLT := Lib.hid hlt
      cases z with
      | true =>
        have hpk2 := picked_yes hpk.out hlk hFs hz
        have HPK := Lib.hid hpk2
        clear hcall hrow' hfw hrg' hlt hpk2 hkey hlk hF hFs hz hrx hwf hrow hpk hfr'
        go_wp2_with (first
          | (go_at_call 153; refine HC.out.mono ?_; rintro e w2 ⟨rfl, hf2⟩; have hrow2 := HRW.out.fr0 hf2; have hzz2 := hf2.size)
          | (at_builtin; go_loud (refine wpList_append_lies _ rfl _ _ 35 rfl (w1.heap.size + 1) 33 i0 (.int .u64 0) 1 8 Tryz.underlying35 hi hz0 hz1 hz2 rfl (by decide) (.slice oa k oc) (k) _ rfl (hrow2.alloc _) ⟨w2.heap.size, 0, none⟩ 1 1 [.int .u64 x] rfl rfl (World.news_of_block (cs := #[.int .u64 x]) (t := 33) (fr := (0, 0)) (heap_alloc_new w2 _)) (by simp [Value.oneCell']) (by omega) (by unfold maxLen; omega) (by omega) (by simp; omega) (w2.heap.size + 1) (by simp) ?_); intro g1 cap1 w3 hown3 hgrow3 hfresh3 hlt3))
        go_roundw
        case rel =>
          have hfa : Fr (fun j => (Value.slice oa k oc).ownBlock = some j) _ w3 := (Fr.refl _ _).grown hgrow3 fun j e => .inl e
          refine ⟨_, cnt', k + 1, os ++ [x], ?_, left_next hl.out, HPK.out, ⟨by simp [hok.1], by have := HLT.out; have := hok.2; omega⟩, Lib.hid (by simpa using hown3), ?_, by have := hfa.size; simp at this; omega⟩
          · exact (HRG.out.fr (hf2.alloc _) id id).fr hfa (fun e => by have := (ownsRow_lt hrow2 _ e).1; omega) (fun e => by have := (ownsRow_lt hrow2 _ e).1; omega)
          · exact ((HFW.out.then0 hf2).alloc _).trans hfa fun j hj => .inr (by have := (ownsRow_lt hrow2 _ hj).1; omega)
        case measure =>
          have hfa : Fr (fun j => (Value.slice oa k oc).ownBlock = some j) _ w3 := (Fr.refl _ _).grown hgrow3 fun j e => .inl e
          rw [((HRG.out.fr (hf2.alloc _) id id).fr hfa (fun e => by have := (ownsRow_lt hrow2 _ e).1; omega) (fun e => by have := (ownsRow_lt hrow2 _ e).1; omega)).left_eq, hrg.out.left_eq]; exact HLT.out
      | false =>
        have hpk2 := picked_no hpk.out hlk hz
        have HPK := Lib.hid hpk2
        clear hcall hrow' hfw hrg' hlt hpk2 hkey hlk hF hFs hz hrx hwf hrow hpk hfr'
        go_wp2_with (go_at_call 153; refine HC.out.mono ?_; rintro e w2 ⟨rfl, hf2⟩)
        go_roundw
        case rel => exact ⟨_, cnt', k, os, HRG.out.fr hf2 id id, left_next hl.out, HPK.out, ⟨hok.1, by have := HLT.out; have := hok.2; omega⟩, HRW.out.fr0 hf2, HFW.out.then0 hf2, by have := hf2.size; omega⟩
        case measure => rw [(HRG.out.fr hf2 id id).left_eq, hrg.out.left_eq]; exact HLT.out
end Go.Proofs.YtefepfiijoafbaaGreat
namespace Go.Proofs.YtefepfiijoafbaaGreat
open Go.RowKit Go.Shelf Go.Maps Go.Sort
attribute [local go_sem] Oper.semAt_some
attribute [local irreducible] wpQuiet
set_option linter.unusedVariables false
set_option linter.unusedSimpArgs false

section
variable (W : World) (R : Nat → Prop) (p : Nat) (l : PL) (N : Nat) (h : IsPL W R p l) (hl : l.AtOk N) (hN : N ≤ 8000000000) (t u : Int)
include h hl hN
set_option maxRecDepth 100000 in
set_option maxHeartbeats 2000000 in
theorem iedges_back (hE : edgedR true true (l.s.ty != 4) l.s.rev (decide (t < l.marked)) = 0) :
    Calls Tryz.prog 35 #[.pointer (some ⟨p, 0, none⟩), .int .u64 t, .bool true, .int .u64 u] W fun e w' => ∃ v, e = .returned (.tuple #[v, .int .i64 0]) ∧ NewInts W (fun x => (haveAt l t x).any (eqVal (nodeV u)) = true) (.returned v) w' := by
  have hed := edged_any W R p l h hl.pred t true true
  rw [hE] at hed
  have hbk := fun W' (hf : Fr N0 W W') => (pBacks_any W' R p l N (h.fr hf fun _ _ => id) hl hN (nodeV u) t).mono fun e w2 hh => (show (∃ v, e = .returned v) ∧ NewInts W (fun x => (haveAt l t x).any (eqVal (nodeV u)) = true) e w2 from ⟨by obtain ⟨v, xs, h1, -⟩ := hh; exact ⟨v, h1⟩, NewInts.from hh hf⟩)
  obtain ⟨P, hP⟩ : ∃ P, NewInts W (fun x => (haveAt l t x).any (eqVal (nodeV u)) = true) = P := ⟨_, rfl⟩
  simp only [hP] at hbk ⊢
  simp only [nodeV, Val.enc] at hbk
  have HED := Lib.hid hed; have HBK := Lib.hid hbk
  clear hed hbk h hl hP hE
  go_enter Tryz.func35, Tryz.ntmps35
  go_wp2_with (first
    | (go_at_call 100; refine HED.out.mono ?_; rintro e w1 ⟨rfl, hf1⟩)
    | (go_at_call 101; refine (HBK.out _ hf1).mono ?_; rintro e w2 ⟨⟨v, rfl⟩, hp⟩))
  exact bodyPost_ret (v := .tuple #[v, .int .i64 0]) (by simp [results, Tryz.results35, go_sem]) rfl ⟨v, rfl, hp⟩
set_option maxRecDepth 100000 in
set_option maxHeartbeats 4000000 in
theorem iedges_to (hu : (Lit.int .u64 u).wf = true) (hE : edgedR true false (l.s.ty != 4) l.s.rev (decide (t < l.marked)) = 0) :
    Calls Tryz.prog 35 #[.pointer (some ⟨p, 0, none⟩), .int .u64 t, .bool false, .int .u64 u] W fun e w' => ∃ v, e = .returned (.tuple #[v, .int .i64 0]) ∧ w'.ownsRow W.heap.size 33 1 v (haveAt l t u).length ((haveAt l t u).map fun x => .int .u64 x.u) ∧ Fr N0 W w' := by
  obtain ⟨i0, hi, hz0, hz1, hz2⟩ := info_parts ins4_info
  have hed := edged_any W R p l h hl.pred t true false
  rw [hE] at hed
  have hva := fun W' (hf : Fr N0 W W') => pVals_any W' R p l N (h.fr hf fun _ _ => id) hl hN u t hu
  have hlen := (haveAt_ok hl t).len u
  obtain ⟨vs, hvs⟩ : ∃ vs, haveAt l t u = vs := ⟨_, rfl⟩
  rw [hvs] at hlen ⊢
  simp only [hvs] at hva
  obtain ⟨n, hn⟩ : ∃ n, vs.length = n := ⟨_, rfl⟩
  have HED := Lib.hid hed; have HVA := Lib.hid hva; have HNN := Lib.hid hn
  rw [hn] at hlen
  clear hed hva h hl hvs hE
  go_enter Tryz.func35, Tryz.ntmps35
  go_wp2_with (go_at_call 100; refine HED.out.mono ?_; rintro e w1 ⟨rfl, hf1⟩)
  refine (HVA.out _ hf1).mono ?_
  rintro e w2 ⟨v', rfl, hrow, hf2⟩
  obtain ⟨g, hg, hr2⟩ := rowsK_of_row (enc := Val.enc) (n := 5) (fun _ => rfl) (by decide) hrow
  obtain ⟨a, off, cap, rfl, r1, r2, r3, -, r5⟩ := hr2
  have HR5 := Lib.hid r5; have HF2 := Lib.hid (hf1.then0 hf2)
  rw [hn] at r1 r3
  simp only [hn]
  clear r5 hf1 hf2 hrow hn
  have hzW := HF2.out.size
  go_wp2_with fail
  go_loopw [11, 32] (fun ov iv wr => ∃ k : Nat, k ≤ n ∧ iv = .int .i64 k ∧ Hid (wr.ownsRow w2.heap.size 33 1 ov k ((vs.take k).map fun x => .int .u64 x.u)) ∧ Hid (Fr N0 w2 wr)) (fun _ iv _ => n - (intOf iv).toNat)
  case atStart => exact ⟨0, Nat.zero_le _, rfl, World.ownsRow_nil _ _ _ _, Fr.refl _ _⟩
  case round =>
    obtain ⟨k, hk, rfl, hrow, hfr⟩ := hrel
    obtain ⟨oa, oc, rfl⟩ := row_form hrow.out
    have hwz := hfr.out.size
    by_cases hlt : k < n
    · obtain rfl := r3 (by omega)
      have hkl : k < vs.length := by rw [HNN.out]; exact hlt
      have e5 := fun c (hc : c < 5) => HR5.out k hkl c hc
      have hts : (vs.take (k + 1)).map (fun x => Value.int .u64 x.u) = (vs.take k).map (fun x => Value.int .u64 x.u) ++ [.int .u64 vs[k].u] := by rw [List.take_succ_eq_append_getElem hkl, List.map_append]; rfl
      obtain ⟨y, hy⟩ : ∃ y, vs[k] = y := ⟨_, rfl⟩
      simp only [hy] at e5 hts
      obtain ⟨yk, yb, yn, ys, yu⟩ := y
      have hcell : ∀ {o : Nat} {z : Value}, w2.cell? ⟨g, o, none⟩ = some z → wr.cell? ⟨g, o, none⟩ = some z := fun h => hfr.out.cell id h
      have e0 := hcell (e5 0 (by decide)); have e1 := hcell (e5 1 (by decide)); have e2 := hcell (e5 2 (by decide)); have e3 := hcell (e5 3 (by decide)); have e4 := hcell (e5 4 (by decide))
      rw [Nat.add_zero] at e0
      simp only at hts
      obtain ⟨wx, hwx⟩ : ∃ wx, wr.alloc (.cells #[.int .u8 yk, .bool yb, .int .i64 yn, .string ys, .int .u64 yu] 57) = wx := ⟨_, rfl⟩
      have hbx : wx.heap[wr.heap.size]? = some (.cells #[.int .u8 yk, .bool yb, .int .i64 yn, .string ys, .int .u64 yu] 57 (0, 0)) := by rw [← hwx]; exact World.alloc_heap_new wr _
      obtain ⟨mx, nx, lx⟩ := box_cells hbx
      have hfx : Fr N0 wr wx := by rw [← hwx]; exact (Fr.refl _ _).alloc _
      have hrow2 : wx.ownsRow w2.heap.size 33 1 (.slice oa k oc) k ((vs.take k).map fun x => .int .u64 x.u) := hrow.out.fr0 hfx
      have hki : (k : Int) < (n : Int) := by omega
      have HTS := Lib.hid hts
      clear e5 hcell hts hy hrow
      go_wp2_with (at_builtin; go_loud (refine wpList_append_lies _ rfl _ _ 35 rfl (w2.heap.size) 33 i0 (.int .u64 0) 1 8 Tryz.underlying35 hi hz0 hz1 hz2 rfl (by decide) (.slice oa k oc) (k) _ rfl (hrow2.alloc _) ⟨wx.heap.size, 0, none⟩ 1 1 [.int .u64 yu] rfl rfl (World.news_of_block (cs := #[.int .u64 yu]) (t := 33) (fr := (0, 0)) (heap_alloc_new wx _)) (by simp [Value.oneCell']) (by omega) (by unfold maxLen; omega) (by omega) (by simp; omega) (wx.heap.size + 1) (by simp) ?_); intro g1 cap1 w3 hown3 hgrow3 hfresh3 hlt3)
      go_roundw
      case rel =>
        have hfa : Fr (fun j => (Value.slice oa k oc).ownBlock = some j) _ w3 := (Fr.refl _ _).grown hgrow3 fun j e => .inl e
        exact ⟨k + 1, by omega, by go_num, by rw [HTS.out]; exact hown3, ((hfr.out.then0 hfx).alloc _).trans hfa fun j hj => .inr (by have := (ownsRow_lt hrow2 _ hj).1; omega)⟩
      case measure => simp [intOf]; omega
    · obtain rfl : k = n := by omega
      have hfull : vs.take k = vs := by rw [← HNN.out, List.take_length]
      have hrw := hrow.out
      rw [hfull] at hrw
      have HRW := Lib.hid hrw
      clear hrw hrow hfull
      have hki : ¬ (k : Int) < (k : Int) := by omega
      go_wp2_with fail
      exact bodyPost_ret (v := .tuple #[.slice oa k oc, .int .i64 0]) (by simp [results, Tryz.results35, go_sem]) rfl ⟨_, rfl, ownsRow_base (by have h := HRW.out; rwa [HNN.out]) hzW, HF2.out.then0 hfr.out⟩
end
end Go.Proofs.YtefepfiijoafbaaGreat
