/- hold: a shard has a predicate. hold, where the predicate is new. -/
import Derived.Deep.RegionHeld3
import Derived.Deep.DrawnRows
import Derived.Test.YtefepfiijoafbaaGreatQSMay
import Derived.Test.YtefepfiijoafbaaGreatQCut
namespace Go.Proofs.YtefepfiijoafbaaGreat
open Go.RowKit Go.Shelf Go.Maps
attribute [local go_sem] Oper.semAt_some
attribute [local go_sem ↓] Go.wp_at_zero Go.wp_at_succ
attribute [local irreducible] wpQuiet
set_option linter.unusedVariables false
set_option linter.unusedSimpArgs false

/-- What a command leaves. -/
def SPost (W : World) (R : Nat → Prop) (p : Nat) (r : SS × Int) (M : Nat) (e : Ending) (w' : World) : Prop :=
  e = .returned (.int .i64 r.2) ∧ ∃ R', IsState w' R' p r.1 M ∧ (∀ k, R' k → R k ∨ W.heap.size ≤ k) ∧ Fr R W w'
theorem SPost.same {W w' : World} {R : Nat → Prop} {p N M : Nat} {s : SS} {E : Int} (h : IsState W R p s N) (hf : Fr N0 W w') (hM : N ≤ M) : SPost W R p (s, E) M (.returned (.int .i64 E)) w' :=
  ⟨rfl, R, (h.fr hf fun _ _ => id).mono (fun _ => id) hM, fun _ => .inl, hf.mono fun _ h => h.elim⟩

theorem IsPL.bound {W : World} {R : Nat → Prop} {p : Nat} {l : PL} (h : IsPL W R p l) : IsPL W (fun k => R k ∧ k < W.heap.size) p l := by
  obtain ⟨vt, vc, cs, h1, h2, ⟨h3, h4⟩, ⟨h5, h6, h7⟩, h8⟩ := h
  refine ⟨vt, vc, cs, h1, ⟨h2, lt_of_block h1⟩, ⟨h3, fun k hk => ⟨⟨(h4 k hk).1, (ownsRow_lt h3 k hk).2⟩, (h4 k hk).2⟩⟩, ⟨h5, h6, fun k hk => ⟨⟨(h7 k hk).1, (ownsRow_lt h5 k hk).2⟩, (h7 k hk).2⟩⟩, fun i hi hi' => ?_⟩
  obtain ⟨e, b, hb, hr⟩ := h8 i hi hi'
  refine ⟨e, b, hb, fun h0 => ⟨⟨(hr h0).1, ?_⟩, (hr h0).2⟩⟩
  obtain ⟨a, off, cap, -, -, -, -, -, g⟩ := hb
  exact lt_of_cell (p := ⟨b, off + 0 * 8 + 0, none⟩) (g 0 h0 0 (by decide))
theorem wrs_lt {W : World} {b : Nat} {v : Value} {xs : List Wr} (h : Wrs W b v xs) (h0 : 0 < xs.length) : b < W.heap.size := by
  obtain ⟨a, off, cap, -, -, -, -, -, g⟩ := h
  exact lt_of_cell (p := ⟨b, off + 0 * 8 + 0, none⟩) (g 0 h0 0 (by decide))
theorem StAt.bound {W : World} {R : Nat → Prop} {t : StB} {m : StM} {s : SS} {N : Nat} (h : StAt W R t m s N) : StAt W (fun k => R k ∧ k < W.heap.size) t { m with RL := fun x k => m.RL x k ∧ k < W.heap.size } s N := by
  obtain ⟨z1, z2, z3, z4⟩ := h.lt
  exact ⟨h.cells, ⟨⟨h.inR.1, z1⟩, ⟨h.inR.2.1, z2⟩, ⟨h.inR.2.2.1, z3⟩, ⟨h.inR.2.2.2, z4⟩⟩, h.apart, h.mapL, h.mapS, h.mapF,
    ⟨fun x l hx => (h.lists.1 x l hx).bound, fun x k hk => ⟨⟨(h.lists.2.1 x k hk.1).1, hk.2⟩, (h.lists.2.1 x k hk.1).2⟩, fun x y k hx hy => h.lists.2.2 x y k hx.1 hy.1⟩,
    fun x ws hx => ⟨(h.staged x ws hx).1, fun h0 => ⟨⟨((h.staged x ws hx).2 h0).1, wrs_lt (h.staged x ws hx).1 h0⟩, ((h.staged x ws hx).2 h0).2.1, fun y hy => ((h.staged x ws hx).2 h0).2.2 y hy.1⟩⟩⟩
theorem IsState.bound {W : World} {R : Nat → Prop} {p : Nat} {s : SS} {N : Nat} (h : IsState W R p s N) : IsState W (fun k => R k ∧ k < W.heap.size) p s N := by
  obtain ⟨t, m, e, h⟩ := h; exact ⟨t, _, e, h.bound⟩
/-- A list more. -/
theorem StAt.put {W W' : World} {R RL' : Nat → Prop} {t : StB} {m : StM} {s : SS} {N p' : Nat} {q : ByteArray} {l : PL} (h : StAt W R t m s N) (hf : Fr (fun j => j = t.mL) W W') (hM : MapF Tryz.prog 9 W' t.mL (N + 1) (putF (viewL s.lists m.pt) (litS q) (some (.pointer (some ⟨p', 0, none⟩)))))
    (hl : IsPL W' RL' p' l) (hR : ∀ k, RL' k → W.heap.size ≤ k) : StAt W' (fun k => R k ∨ W.heap.size ≤ k) t ⟨fun x k => (x = q ∧ RL' k) ∨ (x ≠ q ∧ m.RL x k ∧ k < W.heap.size), fun x => if x = q then p' else m.pt x, m.sv, m.sb⟩ { s with lists := updB s.lists q (some l) } (N + 1) := by
  obtain ⟨z1, z2, z3, z4⟩ := h.lt
  obtain ⟨a1, a2, a3, a4, a5, a6⟩ := h.apart
  refine ⟨?_, ⟨.inl h.inR.1, .inl h.inR.2.1, .inl h.inR.2.2.1, .inl h.inR.2.2.2⟩, h.apart, ?_, ?_, ?_, ⟨?_, ?_, ?_⟩, ?_⟩
  · exact (hf.at (k := t.p) a1 z1).trans h.cells
  · rw [viewL_put] at hM; exact hM
  · exact (h.mapS.fr hf (fun e => a4 e.symm)).mono (Nat.le_succ N)
  · exact (h.mapF.fr hf (fun e => a5 e.symm)).mono (Nat.le_succ N)
  · intro x y hx
    simp only [updB] at hx
    by_cases e : x = q
    · subst e
      simp only [if_true] at hx ⊢
      obtain rfl := Option.some.inj hx
      exact hl.mono fun k hk => .inl ⟨by trivial, hk⟩
    · simp only [if_neg e] at hx ⊢
      exact ((h.lists.1 x y hx).bound.fr hf fun k hk e => (h.lists.2.1 x k hk.1).2.2.1 e).mono fun k hk => .inr ⟨e, hk⟩
  · intro x k hk
    rcases hk with ⟨e, hk⟩ | ⟨e, hk, hlt⟩
    · have := hR k hk
      exact ⟨.inr this, by omega, by omega, by omega, by omega⟩
    · exact ⟨.inl (h.lists.2.1 x k hk).1, (h.lists.2.1 x k hk).2⟩
  · intro x y k hx hy
    rcases hx with ⟨e, hx⟩ | ⟨e, hx, hlt⟩ <;> rcases hy with ⟨e', hy⟩ | ⟨e', hy, hlt'⟩
    · rw [e, e']
    · have := hR k hx; omega
    · have := hR k hy; omega
    · exact h.lists.2.2 x y k hx hy
  · intro x ws hx
    obtain ⟨g1, g2⟩ := h.staged x ws hx
    refine ⟨rowsK_frT (enc := Wr.enc) (n := 8) (fun _ => rfl) g1 hf fun h0 e => (g2 h0).2.1.2.1 e, fun h0 => ⟨.inl (g2 h0).1, (g2 h0).2.1, fun y hy => ?_⟩⟩
    rcases hy with ⟨e, hy⟩ | ⟨e, hy, hlt⟩
    · have h1 : W.heap.size ≤ m.sb x := hR _ hy
      have h2 : m.sb x < W.heap.size := wrs_lt g1 h0
      omega
    · exact (g2 h0).2.2 y hy

theorem sch_ext {x y : Sch} : x = y ↔ x.pred = y.pred ∧ x.ty = y.ty ∧ x.list = y.list ∧ x.exact_ = y.exact_ ∧ x.term = y.term ∧ x.order = y.order ∧ x.rev = y.rev ∧ x.count = y.count := by
  obtain ⟨xd, xu, xp, vk, vb, vn, vs, vu⟩ := x
  obtain ⟨yd, yu, yp, zk, zb, zn, zs, zu⟩ := y
  simp
theorem opCells_eq (o : Op) (V : OpS) : (opEnc o V).toArray = OpCells o.kind o.start o.commit V.wa o.ws.length V.wc o.sch.pred o.sch.ty o.sch.list o.sch.exact_ o.sch.term o.sch.order o.sch.rev o.sch.count o.pred o.at_ V.ta o.nt V.tc V.pa o.np V.pc := rfl

set_option maxRecDepth 100000 in
set_option maxHeartbeats 4000000 in
/-- The predicate is there. -/
theorem holdOld (W : World) (R : Nat → Prop) (p : Nat) (s : SS) (N : Nat) (h : IsState W R p s N) (hF : s.Fine N) (o : Op) (V : OpS) (hsch : schMay o.sch = 0) (l : PL) (hl : s.lists o.sch.pred = some l) :
    Calls Tryz.prog 117 #[.pointer (some ⟨p, 0, none⟩), .agg (opEnc o V).toArray] W (SPost W R p (sHold s o.sch) (N + 1)) := by
  have hS := h
  obtain ⟨t, m, rfl, h⟩ := h
  have hfine := hF.lists _ _ hl
  have hIP := h.lists.1 _ _ hl
  obtain ⟨W0, hW0⟩ : ∃ W0, W.alloc (.cells (opEnc o V).toArray 38) = W0 := ⟨_, rfl⟩
  have hf0 : Fr N0 W W0 := by rw [← hW0]; exact (Fr.refl _ _).alloc _
  have hB : W0.heap[W.heap.size]? = some (.cells (opEnc o V).toArray 38 (0, 0)) := by rw [← hW0]; exact World.alloc_heap_new W _
  have hc := (hf0.at id h.lt.1).trans h.cells
  obtain ⟨m1, n1, l1⟩ := box_cells hc
  obtain ⟨mb, nb, lb⟩ := box_cells hB
  have hsz := hfine.size
  have hlk : (Instr.lookup 119 (.map (some t.mL)) (.string o.sch.pred) true).run Tryz.prog W0.drew = .ok (.tuple #[.pointer (some ⟨m.pt o.sch.pred, 0, none⟩), .bool true]) W0.drew :=
    ((h.mapL.fr hf0 id).fr (Fr.refl N0 W0).drew id).look_some lawSt Tryz.underlying119 (zeroPLR _) (Go.WideMaps.keyOf_string_mk Tryz.underlying9 (by unfold maxLen; omega)) (by rw [show Lit.string o.sch.pred.data.toList = litS o.sch.pred from rfl, viewL_at, hl]; rfl)
  have hsc := fun W' (hf : Fr N0 W W') => schema_any W' (m.RL o.sch.pred) (m.pt o.sch.pred) l (hIP.fr hf fun _ _ => id) hfine.size'
  have hpost : ∀ w', Fr N0 W w' → SPost W R t.p (sHold s o.sch) (N + 1) (.returned (.int .i64 (sHold s o.sch).2)) w' := fun w' hf => by
    have : (sHold s o.sch).1 = s := by unfold sHold; rw [hl]
    refine ⟨rfl, R, ?_, fun _ => .inl, hf.mono fun _ h => h.elim⟩
    rw [this]
    exact (hS.fr hf fun _ _ => id).mono (fun _ => id) (Nat.le_succ N)
  have hE : (l.s = o.sch → (sHold s o.sch).2 = 0) ∧ (l.s ≠ o.sch → (sHold s o.sch).2 = 202) := ⟨fun e => by unfold sHold; rw [hl]; simp [e], fun e => by unfold sHold; rw [hl]; simp [e]⟩
  obtain ⟨E, hE'⟩ : ∃ E, (sHold s o.sch).2 = E := ⟨_, rfl⟩
  obtain ⟨PP, hPP⟩ : ∃ A, SPost W R t.p (sHold s o.sch) (N + 1) = A := ⟨_, rfl⟩
  rw [hE'] at hE hpost
  rw [hPP] at hpost ⊢
  have hext := @sch_ext l.s o.sch
  obtain ⟨pt, hpt⟩ : ∃ x, m.pt o.sch.pred = x := ⟨_, rfl⟩
  obtain ⟨ls, hls⟩ : ∃ x, l.s = x := ⟨_, rfl⟩
  rw [hls] at hE hsc hext
  rw [hpt] at hlk hsc
  rw [opCells_eq] at hB mb hW0 ⊢
  have HLK := Lib.hid hlk; have HSC := Lib.hid hsc; have HPOST := Lib.hid hpost; have HE := Lib.hid hE; have HF0 := Lib.hid hf0; have HEXT := Lib.hid hext
  have hb : BoxS2 W0 t.p #[.bool true, .map (some t.mL), .map (some t.mS), .map (some t.mF)] W.heap.size (OpCells o.kind o.start o.commit V.wa o.ws.length V.wc o.sch.pred o.sch.ty o.sch.list o.sch.exact_ o.sch.term o.sch.order o.sch.rev o.sch.count o.pred o.at_ V.ta o.nt V.tc V.pa o.np V.pc) W0 := ⟨m1, mb, l1, lb, Fr.refl _ _⟩
  have HBX := Lib.hid hb
  clear hsc hpost hE hf0 hb hc hB mb nb lb m1 n1 l1 hS h hfine hIP hsz hE' hPP hext hls hpt hl hsch hF hlk
  obtain ⟨kd, st, cm, ws, ⟨tp, tt, tl, te, tm, to, tr, tc⟩, pr, at_, nt, np⟩ := o
  obtain ⟨wa, wc, ta, tc', pa, pc⟩ := V
  obtain ⟨nw, hnw⟩ : ∃ n, ws.length = n := ⟨_, rfl⟩
  simp only [hnw, Sch.enc] at *
  clear hnw
  obtain ⟨sp, sy, sl, se, sm, so, sr, sc⟩ := ls
  obtain ⟨p, mL, mS, mF⟩ := t
  have hlk := HLK.out
  simp only at *
  go_enter Tryz.func117, Tryz.ntmps117
  go_wp2_with fail
  go_region_held3 (fun W' => BoxS2 W0 p #[.bool true, .map (some mL), .map (some mS), .map (some mF)] W.heap.size (OpCells kd st cm wa nw wc tp tt tl te tm to tr tc pr at_ ta nt tc' pa np pc) W') (first
    | (with_reducible assumption)
    | (with_reducible exact boxS2_keep (Fr.refl _ _).drew HBX.out)
    | fail) (fail)
  rename_i hHeld
  have HB1 := Lib.hid hHeld
  clear hHeld hlk HLK
  cases hb0 : (sp.toList == tp.toList) with
  | false =>
    obtain rfl : E = 202 := HE.out.2 (by rw [ne_eq, HEXT.out]; rintro ⟨q0, q1, q2, q3, q4, q5, q6, q7⟩; simp [q0] at hb0)
    clear HE HEXT
    go_wp2_with fail
    go_region_held3 (fun W' => BoxS2 W0 p #[.bool true, .map (some mL), .map (some mS), .map (some mF)] W.heap.size (OpCells kd st cm wa nw wc tp tt tl te tm to tr tc pr at_ ta nt tc' pa np pc) W') (first
      | (with_reducible assumption)
      | (with_reducible exact boxS2_keep (Fr.refl _ _).drew HB1.out)
      | (with_reducible exact boxS2_keep hfw2 HB1.out)
      | fail) (first
      | (go_simp; go_at_call 81; refine (HSC.out _ (HF0.out.then0 HB1.out.2.2.2.2).drew).mono ?_; rintro e w2 ⟨rfl, hff⟩; have hfw2 : Fr N0 W0.drew w2 := (Fr.refl N0 _).drew.then0 hff)
      | fail)
    rename_i hHeld
    have HB2 := Lib.hid hHeld
    clear hHeld
    go_wp2
    (try go_ret)
    exact HPOST.out _ (HF0.out.then0 HB2.out.2.2.2.2)
  | true =>
    obtain rfl : tp = sp := by rw [beq_iff_eq, toList_eq_data, toList_eq_data] at hb0; exact (ByteArray.ext (Array.toList_inj.1 hb0)).symm
    clear hb0
    cases hb1 : (sy == tt) with
    | false =>
      obtain rfl : E = 202 := HE.out.2 (by rw [ne_eq, HEXT.out]; rintro ⟨q0, q1, q2, q3, q4, q5, q6, q7⟩; simp [q1] at hb1)
      clear HE HEXT
      go_wp2_with fail
      go_region_held3 (fun W' => BoxS2 W0 p #[.bool true, .map (some mL), .map (some mS), .map (some mF)] W.heap.size (OpCells kd st cm wa nw wc tp tt tl te tm to tr tc pr at_ ta nt tc' pa np pc) W') (first
        | (with_reducible assumption)
        | (with_reducible exact boxS2_keep (Fr.refl _ _).drew HB1.out)
        | (with_reducible exact boxS2_keep hfw2 HB1.out)
        | fail) (first
        | (go_simp; go_at_call 81; refine (HSC.out _ (HF0.out.then0 HB1.out.2.2.2.2).drew).mono ?_; rintro e w2 ⟨rfl, hff⟩; have hfw2 : Fr N0 W0.drew w2 := (Fr.refl N0 _).drew.then0 hff)
        | fail)
      rename_i hHeld
      have HB2 := Lib.hid hHeld
      clear hHeld
      go_wp2
      (try go_ret)
      exact HPOST.out _ (HF0.out.then0 HB2.out.2.2.2.2)
    | true =>
      obtain rfl : tt = sy := Eq.symm (by simpa using hb1)
      clear hb1
      cases hb2 : (sl == tl) with
      | false =>
        obtain rfl : E = 202 := HE.out.2 (by rw [ne_eq, HEXT.out]; rintro ⟨q0, q1, q2, q3, q4, q5, q6, q7⟩; simp [q2] at hb2)
        clear HE HEXT
        go_wp2_with fail
        go_region_held3 (fun W' => BoxS2 W0 p #[.bool true, .map (some mL), .map (some mS), .map (some mF)] W.heap.size (OpCells kd st cm wa nw wc tp tt tl te tm to tr tc pr at_ ta nt tc' pa np pc) W') (first
          | (with_reducible assumption)
          | (with_reducible exact boxS2_keep (Fr.refl _ _).drew HB1.out)
          | (with_reducible exact boxS2_keep hfw2 HB1.out)
          | fail) (first
          | (go_simp; go_at_call 81; refine (HSC.out _ (HF0.out.then0 HB1.out.2.2.2.2).drew).mono ?_; rintro e w2 ⟨rfl, hff⟩; have hfw2 : Fr N0 W0.drew w2 := (Fr.refl N0 _).drew.then0 hff)
          | fail)
        rename_i hHeld
        have HB2 := Lib.hid hHeld
        clear hHeld
        go_wp2
        (try go_ret)
        exact HPOST.out _ (HF0.out.then0 HB2.out.2.2.2.2)
      | true =>
        obtain rfl : tl = sl := Eq.symm (by simpa using hb2)
        clear hb2
        cases hb3 : (se == te) with
        | false =>
          obtain rfl : E = 202 := HE.out.2 (by rw [ne_eq, HEXT.out]; rintro ⟨q0, q1, q2, q3, q4, q5, q6, q7⟩; simp [q3] at hb3)
          clear HE HEXT
          go_wp2_with fail
          go_region_held3 (fun W' => BoxS2 W0 p #[.bool true, .map (some mL), .map (some mS), .map (some mF)] W.heap.size (OpCells kd st cm wa nw wc tp tt tl te tm to tr tc pr at_ ta nt tc' pa np pc) W') (first
            | (with_reducible assumption)
            | (with_reducible exact boxS2_keep (Fr.refl _ _).drew HB1.out)
            | (with_reducible exact boxS2_keep hfw2 HB1.out)
            | fail) (first
            | (go_simp; go_at_call 81; refine (HSC.out _ (HF0.out.then0 HB1.out.2.2.2.2).drew).mono ?_; rintro e w2 ⟨rfl, hff⟩; have hfw2 : Fr N0 W0.drew w2 := (Fr.refl N0 _).drew.then0 hff)
            | fail)
          rename_i hHeld
          have HB2 := Lib.hid hHeld
          clear hHeld
          go_wp2
          (try go_ret)
          exact HPOST.out _ (HF0.out.then0 HB2.out.2.2.2.2)
        | true =>
          obtain rfl : te = se := Eq.symm (by simpa using hb3)
          clear hb3
          cases hb4 : (sm == tm) with
          | false =>
            obtain rfl : E = 202 := HE.out.2 (by rw [ne_eq, HEXT.out]; rintro ⟨q0, q1, q2, q3, q4, q5, q6, q7⟩; simp [q4] at hb4)
            clear HE HEXT
            go_wp2_with fail
            go_region_held3 (fun W' => BoxS2 W0 p #[.bool true, .map (some mL), .map (some mS), .map (some mF)] W.heap.size (OpCells kd st cm wa nw wc tp tt tl te tm to tr tc pr at_ ta nt tc' pa np pc) W') (first
              | (with_reducible assumption)
              | (with_reducible exact boxS2_keep (Fr.refl _ _).drew HB1.out)
              | (with_reducible exact boxS2_keep hfw2 HB1.out)
              | fail) (first
              | (go_simp; go_at_call 81; refine (HSC.out _ (HF0.out.then0 HB1.out.2.2.2.2).drew).mono ?_; rintro e w2 ⟨rfl, hff⟩; have hfw2 : Fr N0 W0.drew w2 := (Fr.refl N0 _).drew.then0 hff)
              | fail)
            rename_i hHeld
            have HB2 := Lib.hid hHeld
            clear hHeld
            go_wp2
            (try go_ret)
            exact HPOST.out _ (HF0.out.then0 HB2.out.2.2.2.2)
          | true =>
            obtain rfl : tm = sm := Eq.symm (by simpa using hb4)
            clear hb4
            cases hb5 : (so == to) with
            | false =>
              obtain rfl : E = 202 := HE.out.2 (by rw [ne_eq, HEXT.out]; rintro ⟨q0, q1, q2, q3, q4, q5, q6, q7⟩; simp [q5] at hb5)
              clear HE HEXT
              go_wp2_with fail
              go_region_held3 (fun W' => BoxS2 W0 p #[.bool true, .map (some mL), .map (some mS), .map (some mF)] W.heap.size (OpCells kd st cm wa nw wc tp tt tl te tm to tr tc pr at_ ta nt tc' pa np pc) W') (first
                | (with_reducible assumption)
                | (with_reducible exact boxS2_keep (Fr.refl _ _).drew HB1.out)
                | (with_reducible exact boxS2_keep hfw2 HB1.out)
                | fail) (first
                | (go_simp; go_at_call 81; refine (HSC.out _ (HF0.out.then0 HB1.out.2.2.2.2).drew).mono ?_; rintro e w2 ⟨rfl, hff⟩; have hfw2 : Fr N0 W0.drew w2 := (Fr.refl N0 _).drew.then0 hff)
                | fail)
              rename_i hHeld
              have HB2 := Lib.hid hHeld
              clear hHeld
              go_wp2
              (try go_ret)
              exact HPOST.out _ (HF0.out.then0 HB2.out.2.2.2.2)
            | true =>
              obtain rfl : to = so := Eq.symm (by simpa using hb5)
              clear hb5
              cases hb6 : (sr == tr) with
              | false =>
                obtain rfl : E = 202 := HE.out.2 (by rw [ne_eq, HEXT.out]; rintro ⟨q0, q1, q2, q3, q4, q5, q6, q7⟩; simp [q6] at hb6)
                clear HE HEXT
                go_wp2_with fail
                go_region_held3 (fun W' => BoxS2 W0 p #[.bool true, .map (some mL), .map (some mS), .map (some mF)] W.heap.size (OpCells kd st cm wa nw wc tp tt tl te tm to tr tc pr at_ ta nt tc' pa np pc) W') (first
                  | (with_reducible assumption)
                  | (with_reducible exact boxS2_keep (Fr.refl _ _).drew HB1.out)
                  | (with_reducible exact boxS2_keep hfw2 HB1.out)
                  | fail) (first
                  | (go_simp; go_at_call 81; refine (HSC.out _ (HF0.out.then0 HB1.out.2.2.2.2).drew).mono ?_; rintro e w2 ⟨rfl, hff⟩; have hfw2 : Fr N0 W0.drew w2 := (Fr.refl N0 _).drew.then0 hff)
                  | fail)
                rename_i hHeld
                have HB2 := Lib.hid hHeld
                clear hHeld
                go_wp2
                (try go_ret)
                exact HPOST.out _ (HF0.out.then0 HB2.out.2.2.2.2)
              | true =>
                obtain rfl : tr = sr := Eq.symm (by simpa using hb6)
                clear hb6
                cases hb7 : (sc == tc) with
                | false =>
                  obtain rfl : E = 202 := HE.out.2 (by rw [ne_eq, HEXT.out]; rintro ⟨q0, q1, q2, q3, q4, q5, q6, q7⟩; simp [q7] at hb7)
                  clear HE HEXT
                  go_wp2_with fail
                  go_region_held3 (fun W' => BoxS2 W0 p #[.bool true, .map (some mL), .map (some mS), .map (some mF)] W.heap.size (OpCells kd st cm wa nw wc tp tt tl te tm to tr tc pr at_ ta nt tc' pa np pc) W') (first
                    | (with_reducible assumption)
                    | (with_reducible exact boxS2_keep (Fr.refl _ _).drew HB1.out)
                    | (with_reducible exact boxS2_keep hfw2 HB1.out)
                    | fail) (first
                    | (go_simp; go_at_call 81; refine (HSC.out _ (HF0.out.then0 HB1.out.2.2.2.2).drew).mono ?_; rintro e w2 ⟨rfl, hff⟩; have hfw2 : Fr N0 W0.drew w2 := (Fr.refl N0 _).drew.then0 hff)
                    | fail)
                  rename_i hHeld
                  have HB2 := Lib.hid hHeld
                  clear hHeld
                  go_wp2
                  (try go_ret)
                  exact HPOST.out _ (HF0.out.then0 HB2.out.2.2.2.2)
                | true =>
                  obtain rfl : tc = sc := Eq.symm (by simpa using hb7)
                  clear hb7
                  obtain rfl : E = 0 := HE.out.1 rfl
                  clear HE HEXT
                  go_wp2_with fail
                  go_region_held3 (fun W' => BoxS2 W0 p #[.bool true, .map (some mL), .map (some mS), .map (some mF)] W.heap.size (OpCells kd st cm wa nw wc tp tt tl te tm to tr tc pr at_ ta nt tc' pa np pc) W') (first
                    | (with_reducible assumption)
                    | (with_reducible exact boxS2_keep (Fr.refl _ _).drew HB1.out)
                    | (with_reducible exact boxS2_keep hfw2 HB1.out)
                    | fail) (first
                    | (go_simp; go_at_call 81; refine (HSC.out _ (HF0.out.then0 HB1.out.2.2.2.2).drew).mono ?_; rintro e w2 ⟨rfl, hff⟩; have hfw2 : Fr N0 W0.drew w2 := (Fr.refl N0 _).drew.then0 hff)
                    | fail)
                  rename_i hHeld
                  have HB2 := Lib.hid hHeld
                  clear hHeld
                  go_wp2
                  (try go_ret)
                  exact HPOST.out _ (HF0.out.then0 HB2.out.2.2.2.2)
end Go.Proofs.YtefepfiijoafbaaGreat
namespace Go.Proofs.YtefepfiijoafbaaGreat
open Go.RowKit Go.Shelf Go.Maps
attribute [local go_sem] Oper.semAt_some
attribute [local go_sem ↓] Go.wp_at_zero Go.wp_at_succ
attribute [local irreducible] wpQuiet
set_option linter.unusedVariables false
set_option linter.unusedSimpArgs false

set_option maxRecDepth 100000 in
set_option maxHeartbeats 4000000 in
/-- The predicate is not there. -/
theorem holdNew (W : World) (R : Nat → Prop) (p : Nat) (s : SS) (N : Nat) (h : IsState W R p s N) (hN : N ≤ 100000) (o : Op) (V : OpS) (hsch : schMay o.sch = 0) (hl : s.lists o.sch.pred = none) :
    Calls Tryz.prog 117 #[.pointer (some ⟨p, 0, none⟩), .agg (opEnc o V).toArray] W (SPost W R p (sHold s o.sch) (N + 1)) := by
  obtain ⟨t, m, rfl, h⟩ := h
  obtain ⟨W0, hW0⟩ : ∃ W0, W.alloc (.cells (opEnc o V).toArray 38) = W0 := ⟨_, rfl⟩
  have hf0 : Fr N0 W W0 := by rw [← hW0]; exact (Fr.refl _ _).alloc _
  have hB : W0.heap[W.heap.size]? = some (.cells (opEnc o V).toArray 38 (0, 0)) := by rw [← hW0]; exact World.alloc_heap_new W _
  have hc := (hf0.at id h.lt.1).trans h.cells
  obtain ⟨m1, n1, l1⟩ := box_cells hc
  obtain ⟨mb, nb, lb⟩ := box_cells hB
  have hsz := predOk_size (schMay_pred hsch)
  have hkey : keyOf Tryz.prog 9 (.string o.sch.pred) = some (litS o.sch.pred) := Go.WideMaps.keyOf_string_mk Tryz.underlying9 (by unfold maxLen; omega)
  have hlk : (Instr.lookup 119 (.map (some t.mL)) (.string o.sch.pred) true).run Tryz.prog W0.drew = .ok (.tuple #[.pointer none, .bool false]) W0.drew :=
    ((h.mapL.fr hf0 id).fr (Fr.refl N0 W0).drew id).look_none lawSt Tryz.underlying119 (zeroPLR _) hkey (by rw [viewL_at, hl]; rfl)
  have hnew : ∀ W', Calls Tryz.prog 30 #[.agg o.sch.enc.toArray] W' fun e w' => ∃ p', e = .returned (.tuple #[.pointer (some ⟨p', 0, none⟩), .int .i64 0]) ∧ W'.heap.size ≤ p' ∧ IsPL w' (fun k => k = p') p' { s := o.sch } ∧ Fr N0 W' w' := fun W' => (pNew_any W' o.sch).mono fun e w' ⟨g, hf⟩ => by
    rcases g with ⟨-, p', g1, g2, g3⟩ | ⟨g, -⟩
    · exact ⟨p', g1, g2, g3, hf⟩
    · exact absurd hsch g
  have hpost : ∀ w2 w3 p', Fr N0 W w2 → IsPL w2 (fun k => k = p') p' { s := o.sch } → W.heap.size ≤ p' → MapF Tryz.prog 9 w3 t.mL (N + 1) (putF (viewL s.lists m.pt) (litS o.sch.pred) (some (.pointer (some ⟨p', 0, none⟩)))) → Fr (fun j => j = t.mL) w2 w3 → SPost W R t.p (sHold s o.sch) (N + 1) (.returned (.int .i64 0)) w3 := fun w2 w3 p' g1 g2 g3 g4 g5 => by
    have e : sHold s o.sch = ({ s with lists := updB s.lists o.sch.pred (some { s := o.sch }) }, 0) := by unfold sHold; rw [hl]
    rw [e]
    have hfr : Fr (fun j => j = t.mL) W w3 := (g1.mono fun _ h => h.elim).trans g5 fun k e => .inl e
    have hz := h.lt.2.1
    refine ⟨rfl, _, ⟨t, _, rfl, h.put hfr g4 (g2.fr g5 fun k e e' => by omega) fun k e => by omega⟩, fun _ h => h, hfr.mono fun k e => .inl (e ▸ h.inR.2.1)⟩
  have hmap : ∀ w2, Fr N0 W w2 → MapF Tryz.prog 9 w2 t.mL N (viewL s.lists m.pt) := fun w2 hf => h.mapL.fr hf id
  obtain ⟨PP, hPP⟩ : ∃ A, SPost W R t.p (sHold s o.sch) (N + 1) = A := ⟨_, rfl⟩
  rw [hPP] at hpost ⊢
  obtain ⟨F, hF⟩ : ∃ F, viewL s.lists m.pt = F := ⟨_, rfl⟩
  rw [hF] at hpost hmap
  obtain ⟨KL, hKL⟩ : ∃ F, litS o.sch.pred = F := ⟨_, rfl⟩
  rw [hKL] at hpost hkey
  rw [opCells_eq] at hB mb hW0 ⊢
  have HLK := Lib.hid hlk; have HNEW := Lib.hid hnew; have HPOST := Lib.hid hpost; have HMAP := Lib.hid hmap; have HF0 := Lib.hid hf0; have HKEY := Lib.hid hkey
  have hb : BoxS2 W0 t.p #[.bool true, .map (some t.mL), .map (some t.mS), .map (some t.mF)] W.heap.size (OpCells o.kind o.start o.commit V.wa o.ws.length V.wc o.sch.pred o.sch.ty o.sch.list o.sch.exact_ o.sch.term o.sch.order o.sch.rev o.sch.count o.pred o.at_ V.ta o.nt V.tc V.pa o.np V.pc) W0 := ⟨m1, mb, l1, lb, Fr.refl _ _⟩
  have HBX := Lib.hid hb
  clear hnew hpost hmap hf0 hb hc hB mb nb lb m1 n1 l1 hsz hPP hF hlk hkey hKL
  have HH := Lib.hid h
  clear h hl hsch
  obtain ⟨kd, st, cm, ws, ⟨tp, tt, tl, te, tm, to, tr, tc⟩, pr, at_, nt, np⟩ := o
  obtain ⟨wa, wc, ta, tc', pa, pc⟩ := V
  obtain ⟨nw, hnw⟩ : ∃ n, ws.length = n := ⟨_, rfl⟩
  simp only [hnw, Sch.enc] at *
  clear hnw
  obtain ⟨p, mL, mS, mF⟩ := t
  have hlk := HLK.out
  simp only at *
  go_enter Tryz.func117, Tryz.ntmps117
  go_wp2_with fail
  go_region_held3 (fun W' => BoxS2 W0 p #[.bool true, .map (some mL), .map (some mS), .map (some mF)] W.heap.size (OpCells kd st cm wa nw wc tp tt tl te tm to tr tc pr at_ ta nt tc' pa np pc) W') (first
    | (with_reducible assumption)
    | (with_reducible exact boxS2_keep (Fr.refl _ _).drew HBX.out)
    | fail) (fail)
  rename_i hHeld
  have HB1 := Lib.hid hHeld
  obtain ⟨m2, m3, l2, l3, -⟩ := hHeld
  clear hlk HLK
  go_wp2_with (go_at_call 30; go_loud (refine (HNEW.out _).mono ?_); rintro e w2 ⟨p', rfl, hp', hIP, hf2⟩)
  have HB2 := Lib.hid (boxS2_keep hf2 HB1.out)
  have hB2 := HB2.out
  obtain ⟨m4, m5, l4, l5, hf4⟩ := hB2
  have hzz := HF0.out.size
  have hzd : W0.drew.heap.size = W0.heap.size := rfl
  have HM2 := Lib.hid (HMAP.out w2.drew ((HF0.out.then0 hf4).drew))
  have HF4 := Lib.hid (HF0.out.then0 hf4)
  have HIP := Lib.hid hIP
  clear hIP hf2 hf4 HB1 HBX m2 m3 l2 l3
  obtain ⟨w3, hrun, hm3, hf3⟩ := HM2.out.store lawSt Tryz.underlying119 (by unfold maxLen; omega) HKEY.out (.pointer (some ⟨p', 0, none⟩))
  have HM3 := Lib.hid hm3; have HF3 := Lib.hid hf3
  clear hm3 hf3
  refine wp_plainQ ?_
  go_region_law (fail)
  all_goals
    go_wp2
    (try go_ret)
    exact HPOST.out w2.drew w3 p' HF4.out.drew (HIP.out.fr (Fr.refl N0 w2).drew fun _ _ => id) (by omega) HM3.out HF3.out
theorem hold_any (W : World) (R : Nat → Prop) (p : Nat) (s : SS) (N : Nat) (h : IsState W R p s N) (hF : s.Fine N) (hN : N ≤ 100000) (o : Op) (V : OpS) (hsch : schMay o.sch = 0) :
    Calls Tryz.prog 117 #[.pointer (some ⟨p, 0, none⟩), .agg (opEnc o V).toArray] W (SPost W R p (sHold s o.sch) (N + 1)) := by
  cases hl : s.lists o.sch.pred with
  | some l => exact holdOld W R p s N h hF o V hsch l hl
  | none => exact holdNew W R p s N h hN o V hsch hl
end Go.Proofs.YtefepfiijoafbaaGreat
