/- stage: a transaction's writes. stage, where the start is staged. -/
import Derived.Test.YtefepfiijoafbaaGreatQSHoldN
import Derived.Test.YtefepfiijoafbaaGreatQEqF
namespace Go.Proofs.YtefepfiijoafbaaGreat
open Go.RowKit Go.Shelf Go.Maps
attribute [local go_sem] Oper.semAt_some
attribute [local go_sem ↓] Go.wp_at_zero Go.wp_at_succ
attribute [local irreducible] wpQuiet
set_option linter.unusedVariables false
set_option linter.unusedSimpArgs false

/-- Staged writes more. -/
theorem StAt.putS {W W' : World} {R : Nat → Prop} {t : StB} {m : StM} {s : SS} {N b : Nat} {x : Int} {v : Value} {ws : List Wr} (h : StAt W R t m s N) (hf : Fr (fun j => j = t.mS) W W') (hM : MapF Tryz.prog 33 W' t.mS (N + 1) (putF (viewS s.staged m.sv) (litU x) (some v)))
    (hw : Wrs W' b v ws) (hb : 0 < ws.length → W.heap.size ≤ b) : StAt W' (fun k => R k ∨ W.heap.size ≤ k) t ⟨fun x k => m.RL x k ∧ k < W.heap.size, m.pt, fun y => if y = x then v else m.sv y, fun y => if y = x then b else m.sb y⟩ { s with staged := updI s.staged x (some ws) } (N + 1) := by
  obtain ⟨z1, z2, z3, z4⟩ := h.lt
  obtain ⟨a1, a2, a3, a4, a5, a6⟩ := h.apart
  refine ⟨?_, ⟨.inl h.inR.1, .inl h.inR.2.1, .inl h.inR.2.2.1, .inl h.inR.2.2.2⟩, h.apart, ?_, ?_, ?_, ⟨?_, ?_, ?_⟩, ?_⟩
  · exact (hf.at (k := t.p) a2 z1).trans h.cells
  · exact (h.mapL.fr hf a4).mono (Nat.le_succ N)
  · rw [viewS_put] at hM; exact hM
  · exact (h.mapF.fr hf (fun e => a6 e.symm)).mono (Nat.le_succ N)
  · intro y l hy
    exact (h.lists.1 y l hy).bound.fr hf fun k hk e => (h.lists.2.1 y k hk.1).2.2.2.1 e
  · intro y k hk
    exact ⟨.inl (h.lists.2.1 y k hk.1).1, (h.lists.2.1 y k hk.1).2⟩
  · intro y z k hy hz
    exact h.lists.2.2 y z k hy.1 hz.1
  · intro y us hy
    simp only [updI] at hy
    by_cases e : y = x
    · subst e
      simp only [if_true] at hy ⊢
      obtain rfl := Option.some.inj hy
      refine ⟨hw, fun h0 => ?_⟩
      have := hb h0
      exact ⟨.inr this, ⟨by omega, by omega, by omega, by omega⟩, fun q hq => by have := hq.2; omega⟩
    · simp only [if_neg e] at hy ⊢
      obtain ⟨g1, g2⟩ := h.staged y us hy
      exact ⟨rowsK_frT (enc := Wr.enc) (n := 8) (fun _ => rfl) g1 hf fun h0 e => (g2 h0).2.1.2.2.1 e, fun h0 => ⟨.inl (g2 h0).1, (g2 h0).2.1, fun q hq => (g2 h0).2.2 q hq.1⟩⟩

abbrev BoxO (W0 : World) (p mL mS mF B : Nat) (kd st cm : Int) (wa : Option Addr) (nw wc : Nat) (sp : ByteArray) (sy : Int) (sl se sm so sr sc : Bool) (pr : ByteArray) (at_ : Int) (ta : Option Addr) (nt tc : Nat) (pa : Option Addr) (np pc : Nat) (W' : World) : Prop :=
  BoxS2 W0 p #[.bool true, .map (some mL), .map (some mS), .map (some mF)] B (OpCells kd st cm wa nw wc sp sy sl se sm so sr sc pr at_ ta nt tc pa np pc) W'

set_option maxRecDepth 100000 in
set_option maxHeartbeats 4000000 in
/-- It is final. -/
theorem stageFin (W : World) (R : Nat → Prop) (p : Nat) (s : SS) (N : Nat) (h : IsState W R p s N) (o : Op) (ho : o.wf) (V : OpS) (c : Int) (hl : s.finals o.start = some c) :
    Calls Tryz.prog 118 #[.pointer (some ⟨p, 0, none⟩), .agg (opEnc o V).toArray] W (SPost W R p (s, 210) (N + 1)) := by
  have hS := h
  obtain ⟨t, m, rfl, h⟩ := h
  obtain ⟨W0, hW0⟩ : ∃ W0, W.alloc (.cells (opEnc o V).toArray 38) = W0 := ⟨_, rfl⟩
  have hf0 : Fr N0 W W0 := by rw [← hW0]; exact (Fr.refl _ _).alloc _
  have hB : W0.heap[W.heap.size]? = some (.cells (opEnc o V).toArray 38 (0, 0)) := by rw [← hW0]; exact World.alloc_heap_new W _
  have hc := (hf0.at id h.lt.1).trans h.cells
  obtain ⟨m1, n1, l1⟩ := box_cells hc
  obtain ⟨mb, nb, lb⟩ := box_cells hB
  have hlk : (Instr.lookup 44 (.map (some t.mF)) (.int .u64 o.start) true).run Tryz.prog W0.drew = .ok (.tuple #[.int .u64 c, .bool true]) W0.drew :=
    ((h.mapF.fr hf0 id).fr (Fr.refl N0 W0).drew id).look_some lawU Tryz.underlying44 (zeroU64R _) (keyOf_int_mk Tryz.underlying33 ho.start) (by rw [viewF_at, hl]; rfl)
  have hpost : ∀ w', Fr N0 W w' → SPost W R t.p (s, 210) (N + 1) (.returned (.int .i64 210)) w' := fun w' hf => SPost.same hS hf (Nat.le_succ N)
  obtain ⟨PP, hPP⟩ : ∃ A, SPost W R t.p (s, 210) (N + 1) = A := ⟨_, rfl⟩
  rw [hPP] at hpost ⊢
  rw [opCells_eq] at hB mb hW0 ⊢
  have HLK := Lib.hid hlk; have HPOST := Lib.hid hpost; have HF0 := Lib.hid hf0
  have hb : BoxO W0 t.p t.mL t.mS t.mF W.heap.size o.kind o.start o.commit V.wa o.ws.length V.wc o.sch.pred o.sch.ty o.sch.list o.sch.exact_ o.sch.term o.sch.order o.sch.rev o.sch.count o.pred o.at_ V.ta o.nt V.tc V.pa o.np V.pc W0 := ⟨m1, mb, l1, lb, Fr.refl _ _⟩
  have HBX := Lib.hid hb
  clear hpost hf0 hb hc hB mb nb lb m1 n1 l1 hPP hlk hS hl h ho
  obtain ⟨kd, st, cm, ws, ⟨tp, tt, tl, te, tm, to, tr, tc⟩, pr, at_, nt, np⟩ := o
  obtain ⟨wa, wc, ta, tc', pa, pc⟩ := V
  obtain ⟨nw, hnw⟩ : ∃ n, ws.length = n := ⟨_, rfl⟩
  simp only [hnw] at *
  clear hnw
  obtain ⟨p, mL, mS, mF⟩ := t
  have hlk := HLK.out
  simp only at *
  go_enter Tryz.func118, Tryz.ntmps118
  go_wp2_with fail
  go_region_held3 (BoxO W0 p mL mS mF W.heap.size kd st cm wa nw wc tp tt tl te tm to tr tc pr at_ ta nt tc' pa np pc) (first
    | (with_reducible assumption)
    | (with_reducible exact boxS2_keep (Fr.refl _ _).drew HBX.out)
    | fail) (fail)
  rename_i hHeld
  have HB1 := Lib.hid hHeld
  clear hHeld hlk HLK
  go_wp2
  (try go_ret)
  exact HPOST.out _ (HF0.out.then0 HB1.out.2.2.2.2)
end Go.Proofs.YtefepfiijoafbaaGreat
namespace Go.Proofs.YtefepfiijoafbaaGreat
open Go.RowKit Go.Shelf Go.Maps
attribute [local go_sem] Oper.semAt_some
attribute [local go_sem ↓] Go.wp_at_zero Go.wp_at_succ
attribute [local irreducible] wpQuiet
set_option linter.unusedVariables false
set_option linter.unusedSimpArgs false

set_option maxRecDepth 100000 in
set_option maxHeartbeats 4000000 in
open Classical in
/-- It is staged. -/
theorem stageHad (W : World) (R : Nat → Prop) (p : Nat) (s : SS) (N : Nat) (h : IsState W R p s N) (o : Op) (ho : o.wf) (V : OpS) (b : Nat) (hw : Wrs W b (.slice V.wa o.ws.length V.wc) o.ws) (hn : s.finals o.start = none) (w : List Wr) (hl : s.staged o.start = some w) (hwl : w.length ≤ 256) (E : Int) (hE : E = if w = o.ws then 0 else 211) :
    Calls Tryz.prog 118 #[.pointer (some ⟨p, 0, none⟩), .agg (opEnc o V).toArray] W (SPost W R p (s, E) (N + 1)) := by
  have hS := h
  obtain ⟨t, m, rfl, h⟩ := h
  obtain ⟨W0, hW0⟩ : ∃ W0, W.alloc (.cells (opEnc o V).toArray 38) = W0 := ⟨_, rfl⟩
  have hf0 : Fr N0 W W0 := by rw [← hW0]; exact (Fr.refl _ _).alloc _
  have hB : W0.heap[W.heap.size]? = some (.cells (opEnc o V).toArray 38 (0, 0)) := by rw [← hW0]; exact World.alloc_heap_new W _
  have hc := (hf0.at id h.lt.1).trans h.cells
  obtain ⟨m1, n1, l1⟩ := box_cells hc
  obtain ⟨mb, nb, lb⟩ := box_cells hB
  have hlk : (Instr.lookup 44 (.map (some t.mF)) (.int .u64 o.start) true).run Tryz.prog W0.drew = .ok (.tuple #[.int .u64 0, .bool false]) W0.drew :=
    ((h.mapF.fr hf0 id).fr (Fr.refl N0 W0).drew id).look_none lawU Tryz.underlying44 (zeroU64R _) (keyOf_int_mk Tryz.underlying33 ho.start) (by rw [viewF_at, hn]; rfl)
  obtain ⟨g1, -⟩ := h.staged _ _ hl
  have hlk2 : (Instr.lookup 120 (.map (some t.mS)) (.int .u64 o.start) true).run Tryz.prog W0.drew.drew = .ok (.tuple #[m.sv o.start, .bool true]) W0.drew.drew :=
    ((h.mapS.fr hf0 id).fr (Fr.refl N0 W0).drew.drew id).look_some lawU Tryz.underlying120 (zeroWsR _) (keyOf_int_mk Tryz.underlying33 ho.start) (by rw [viewS_at, hl]; rfl)
  have heq := fun W' (hf : Fr N0 W W') => eqWF_any W' (m.sb o.start) b (m.sv o.start) (.slice V.wa o.ws.length V.wc) w o.ws (g1.fr0 hf) (hw.fr0 hf) (by omega)
  obtain ⟨sa, so_, sc_, hsv, -⟩ := g1
  rw [hsv] at hlk2 heq
  have hEE : E = if decide (w = o.ws) then 0 else 211 := by rw [hE]; simp
  obtain ⟨bq, hbq⟩ : ∃ x, decide (w = o.ws) = x := ⟨_, rfl⟩
  simp only [hbq] at heq hEE
  obtain ⟨nv, hnv⟩ : ∃ n, w.length = n := ⟨_, rfl⟩
  rw [hnv] at hlk2 heq
  have hpost : ∀ w', Fr N0 W w' → SPost W R t.p (s, E) (N + 1) (.returned (.int .i64 E)) w' := fun w' hf => SPost.same hS hf (Nat.le_succ N)
  obtain ⟨PP, hPP⟩ : ∃ A, SPost W R t.p (s, E) (N + 1) = A := ⟨_, rfl⟩
  rw [hPP] at hpost ⊢
  rw [opCells_eq] at hB mb hW0 ⊢
  have HLK := Lib.hid hlk; have HLK2 := Lib.hid hlk2; have HEQ := Lib.hid heq; have HEE := Lib.hid hEE; have HPOST := Lib.hid hpost; have HF0 := Lib.hid hf0
  have hb : BoxO W0 t.p t.mL t.mS t.mF W.heap.size o.kind o.start o.commit V.wa o.ws.length V.wc o.sch.pred o.sch.ty o.sch.list o.sch.exact_ o.sch.term o.sch.order o.sch.rev o.sch.count o.pred o.at_ V.ta o.nt V.tc V.pa o.np V.pc W0 := ⟨m1, mb, l1, lb, Fr.refl _ _⟩
  have HBX := Lib.hid hb
  clear hnv hsv hbq hlk2 heq hEE hE hwl hw hn hpost hf0 hb hc hB mb nb lb m1 n1 l1 hPP hlk hS hl h ho
  obtain ⟨kd, st, cm, ws, ⟨tp, tt, tl, te, tm, to, tr, tc⟩, pr, at_, nt, np⟩ := o
  obtain ⟨wa, wc, ta, tc', pa, pc⟩ := V
  obtain ⟨nw, hnw⟩ : ∃ n, ws.length = n := ⟨_, rfl⟩
  simp only [hnw] at *
  clear hnw
  obtain ⟨p, mL, mS, mF⟩ := t
  have hlk := HLK.out
  simp only at *
  go_enter Tryz.func118, Tryz.ntmps118
  go_wp2_with fail
  go_region_held3 (BoxO W0 p mL mS mF W.heap.size kd st cm wa nw wc tp tt tl te tm to tr tc pr at_ ta nt tc' pa np pc) (first
    | (with_reducible assumption)
    | (with_reducible exact boxS2_keep (Fr.refl _ _).drew HBX.out)
    | fail) (fail)
  rename_i hHeld
  have HB1 := Lib.hid hHeld
  clear hHeld hlk HLK
  have hlk2 := HLK2.out
  go_wp2_with fail
  go_region_held3 (BoxO W0 p mL mS mF W.heap.size kd st cm wa nw wc tp tt tl te tm to tr tc pr at_ ta nt tc' pa np pc) (first
    | (with_reducible assumption)
    | (with_reducible exact boxS2_keep (Fr.refl _ _).drew HB1.out)
    | fail) (fail)
  rename_i hHeld
  have HB2 := Lib.hid hHeld
  obtain ⟨m2, m3, l2, l3, -⟩ := hHeld
  clear hlk2 HLK2
  cases bq with
  | true =>
    obtain rfl : E = 0 := by rw [HEE.out]; rfl
    go_wp2_with (go_at_call 58; go_loud (refine (HEQ.out _ (HF0.out.then0 HB2.out.2.2.2.2)).mono ?_); rintro e w2 ⟨rfl, hf2⟩)
    (try go_ret)
    exact HPOST.out _ ((HF0.out.then0 HB2.out.2.2.2.2).then0 hf2)
  | false =>
    obtain rfl : E = 211 := by rw [HEE.out]; rfl
    go_wp2_with (go_at_call 58; go_loud (refine (HEQ.out _ (HF0.out.then0 HB2.out.2.2.2.2)).mono ?_); rintro e w2 ⟨rfl, hf2⟩)
    (try go_ret)
    exact HPOST.out _ ((HF0.out.then0 HB2.out.2.2.2.2).then0 hf2)
end Go.Proofs.YtefepfiijoafbaaGreat
