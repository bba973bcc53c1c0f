/- What final does to the maps and the lists of a state, as it lies. final: its end; where it is final; where it is not staged; where it is given up. final, where it is given up. -/
import Derived.Test.YtefepfiijoafbaaGreatQSCopyC
namespace Go.Proofs.YtefepfiijoafbaaGreat
open Go.RowKit Go.Shelf Go.Maps
attribute [local go_sem] Oper.semAt_some
attribute [local irreducible] wpQuiet
set_option linter.unusedVariables false
set_option linter.unusedSimpArgs false

theorem viewL_some {f g : ByteArray → Option PL} {pt : ByteArray → Nat} (h : ∀ q, (f q).isSome = (g q).isSome) : viewL f pt = viewL g pt := by
  funext kl
  unfold viewL
  split
  · rename_i l
    have := h (mkS l)
    cases hf : f (mkS l) <;> cases hg : g (mkS l) <;> simp_all
  · rfl
/-- A list is changed where it lies. -/
theorem StAt.setL {W W' : World} {R R' : Nat → Prop} {t : StB} {m : StM} {s : SS} {N : Nat} {q : ByteArray} {l l' : PL} (h : StAt W R t m s N) (hq : s.lists q = some l) (hl : IsPL W' R' (m.pt q) l') (hR : ∀ k, R' k → m.RL q k ∨ W.heap.size ≤ k) (hf : Fr (m.RL q) W W') :
    StAt W' (fun k => R k ∨ W.heap.size ≤ k) t ⟨fun x k => (x = q ∧ R' k) ∨ (x ≠ q ∧ m.RL x k ∧ k < W.heap.size), m.pt, m.sv, m.sb⟩ { s with lists := updB s.lists q (some l') } N := by
  obtain ⟨z1, z2, z3, z4⟩ := h.lt
  have hRL := h.lists.2.1
  refine ⟨?_, ⟨.inl h.inR.1, .inl h.inR.2.1, .inl h.inR.2.2.1, .inl h.inR.2.2.2⟩, h.apart, ?_, ?_, ?_, ⟨?_, ?_, ?_⟩, ?_⟩
  · exact (hf.at (k := t.p) (fun e => (hRL q _ e).2.1 rfl) z1).trans h.cells
  · have e : viewL (updB s.lists q (some l')) m.pt = viewL s.lists m.pt := viewL_some fun x => by
      unfold updB
      by_cases e : x = q
      · subst e; simp [hq]
      · simp [e]
    show MapF _ _ _ _ _ (viewL (updB s.lists q (some l')) m.pt)
    rw [e]
    exact h.mapL.fr hf fun e => (hRL q _ e).2.2.1 rfl
  · exact h.mapS.fr hf fun e => (hRL q _ e).2.2.2.1 rfl
  · exact h.mapF.fr hf fun e => (hRL q _ e).2.2.2.2 rfl
  · intro x y hx
    simp only [updB] at hx
    by_cases e : x = q
    · subst e
      simp only [if_true] at hx
      obtain rfl := Option.some.inj hx
      exact hl.mono fun k hk => .inl ⟨rfl, hk⟩
    · simp only [if_neg e] at hx
      exact ((h.lists.1 x y hx).bound.fr hf fun k hk e' => e (h.lists.2.2 x q k hk.1 e')).mono fun k hk => .inr ⟨e, hk⟩
  · intro x k hk
    rcases hk with ⟨e, hk⟩ | ⟨e, hk, hlt⟩
    · rcases hR k hk with hk | hk
      · exact ⟨.inl (hRL q k hk).1, (hRL q k hk).2⟩
      · exact ⟨.inr hk, by omega, by omega, by omega, by omega⟩
    · exact ⟨.inl (hRL x k hk).1, (hRL x k hk).2⟩
  · intro x y k hx hy
    rcases hx with ⟨e, hx⟩ | ⟨e, hx, hlt⟩ <;> rcases hy with ⟨e', hy⟩ | ⟨e', hy, hlt'⟩
    · rw [e, e']
    · rcases hR k hx with hk | hk
      · exact absurd (h.lists.2.2 q y k hk hy) (fun e => e' e.symm)
      · omega
    · rcases hR k hy with hk | hk
      · exact absurd (h.lists.2.2 x q k hx hk) e
      · omega
    · exact h.lists.2.2 x y k hx hy
  · intro x ws hx
    obtain ⟨g1, g2⟩ := h.staged x ws hx
    refine ⟨rowsK_frT (enc := Wr.enc) (n := 8) (fun _ => rfl) g1 hf fun h0 e => (g2 h0).2.2 q e, fun h0 => ⟨.inl (g2 h0).1, (g2 h0).2.1, fun y hy => ?_⟩⟩
    rcases hy with ⟨e, hy⟩ | ⟨e, hy, hlt⟩
    · rcases hR _ hy with hk | hk
      · exact (g2 h0).2.2 q hk
      · have h1 : W.heap.size ≤ m.sb x := hk
        have h2 : m.sb x < W.heap.size := wrs_lt g1 h0
        omega
    · exact (g2 h0).2.2 y hy
/-- Staged writes less. -/
theorem StAt.delS {W W' : World} {R : Nat → Prop} {t : StB} {m : StM} {s : SS} {N : Nat} {x : Int} (h : StAt W R t m s N) (hf : Fr (fun j => j = t.mS) W W') (hM : MapF Tryz.prog 33 W' t.mS N (putF (viewS s.staged m.sv) (litU x) none)) :
    StAt W' R t m { s with staged := updI s.staged x none } N := by
  obtain ⟨z1, z2, z3, z4⟩ := h.lt
  obtain ⟨a1, a2, a3, a4, a5, a6⟩ := h.apart
  refine ⟨?_, h.inR, h.apart, ?_, ?_, ?_, ⟨?_, h.lists.2⟩, ?_⟩
  · exact (hf.at (k := t.p) a2 z1).trans h.cells
  · exact h.mapL.fr hf a4
  · rw [viewS_del] at hM; exact hM
  · exact h.mapF.fr hf fun e => a6 e.symm
  · intro y l hy
    exact (h.lists.1 y l hy).fr hf fun k hk e => (h.lists.2.1 y k hk).2.2.2.1 e
  · intro y us hy
    simp only [updI] at hy
    split at hy
    · cases hy
    · obtain ⟨g1, g2⟩ := h.staged y us hy
      exact ⟨rowsK_frT (enc := Wr.enc) (n := 8) (fun _ => rfl) g1 hf fun h0 e => (g2 h0).2.1.2.2.1 e, g2⟩
/-- A final more. -/
theorem StAt.putF {W W' : World} {R : Nat → Prop} {t : StB} {m : StM} {s : SS} {N : Nat} {x c : Int} (h : StAt W R t m s N) (hf : Fr (fun j => j = t.mF) W W') (hM : MapF Tryz.prog 33 W' t.mF (N + 1) (Go.Proofs.YtefepfiijoafbaaGreat.putF (viewF s.finals) (litU x) (some (.int .u64 c)))) :
    StAt W' R t m { s with finals := updI s.finals x (some c) } (N + 1) := by
  obtain ⟨z1, z2, z3, z4⟩ := h.lt
  obtain ⟨a1, a2, a3, a4, a5, a6⟩ := h.apart
  refine ⟨?_, h.inR, h.apart, ?_, ?_, ?_, ⟨?_, h.lists.2⟩, ?_⟩
  · exact (hf.at (k := t.p) a3 z1).trans h.cells
  · exact (h.mapL.fr hf a5).mono (Nat.le_succ N)
  · exact (h.mapS.fr hf a6).mono (Nat.le_succ N)
  · rw [viewF_put] at hM; exact hM
  · intro y l hy
    exact (h.lists.1 y l hy).fr hf fun k hk e => (h.lists.2.1 y k hk).2.2.2.2 e
  · intro y us hy
    obtain ⟨g1, g2⟩ := h.staged y us hy
    exact ⟨rowsK_frT (enc := Wr.enc) (n := 8) (fun _ => rfl) g1 hf fun h0 e => (g2 h0).2.1.2.2.2 e, g2⟩
/-- Another state's place. -/
theorem StAt.moved {W W' : World} {R : Nat → Prop} {t : StB} {m : StM} {s : SS} {N p : Nat} (h : StAt W R t m s N) (hf : Fr (fun j => j = p) W W') (hR : ∀ k, R k → k ≠ p) (hc : W'.heap[p]? = some (.cells #[.bool true, .map (some t.mL), .map (some t.mS), .map (some t.mF)] 122 (0, 0))) :
    StAt W' (fun k => R k ∨ k = p) { t with p := p } m s N := by
  obtain ⟨a1, a2, a3, a4, a5, a6⟩ := h.apart
  obtain ⟨r1, r2, r3, r4⟩ := h.inR
  refine ⟨hc, ⟨.inr rfl, .inl r2, .inl r3, .inl r4⟩, ⟨fun e => hR _ r2 e.symm, fun e => hR _ r3 e.symm, fun e => hR _ r4 e.symm, a4, a5, a6⟩, h.mapL.fr hf (hR _ r2), h.mapS.fr hf (hR _ r3), h.mapF.fr hf (hR _ r4), ⟨?_, ?_, h.lists.2.2⟩, ?_⟩
  · intro y l hy
    exact (h.lists.1 y l hy).fr hf fun k hk e => hR k (h.lists.2.1 y k hk).1 e
  · intro y k hk
    have := (h.lists.2.1 y k hk)
    exact ⟨.inl this.1, hR k this.1, this.2.2⟩
  · intro y us hy
    obtain ⟨g1, g2⟩ := h.staged y us hy
    exact ⟨rowsK_frT (enc := Wr.enc) (n := 8) (fun _ => rfl) g1 hf fun h0 e => hR _ (g2 h0).1 e, fun h0 => ⟨.inl (g2 h0).1, ⟨hR _ (g2 h0).1, (g2 h0).2.1.2⟩, (g2 h0).2.2⟩⟩

theorem stC_size : (Tryz.prog.info? 122).map (·.size) = some 4 := by kernel_rfl
set_option maxRecDepth 100000 in
set_option maxHeartbeats 1000000 in
theorem sBecome_any (W : World) (p q : Nat) (y : Bool) (oL oS oF : Nat) (hp : W.heap[p]? = some (.cells #[.bool y, .map (some oL), .map (some oS), .map (some oF)] 122 (0, 0))) (x : Bool) (mL mS mF : Nat) (hq : W.heap[q]? = some (.cells #[.bool x, .map (some mL), .map (some mS), .map (some mF)] 122 (0, 0))) (hpq : p ≠ q) :
    Calls Tryz.prog 188 #[.pointer (some ⟨p, 0, none⟩), .pointer (some ⟨q, 0, none⟩)] W fun e w' => e = .returned (.tuple #[]) ∧ w'.heap[p]? = some (.cells #[.bool x, .map (some mL), .map (some mS), .map (some mF)] 122 (0, 0)) ∧ Fr (fun j => j = p) W w' := by
  obtain ⟨m1, n1, l1⟩ := box_cells hp
  obtain ⟨m2, n2, l2⟩ := box_cells hq
  have HP := Lib.hid hp
  clear hp hq
  go_enter Tryz.func188, Tryz.ntmps188
  go_wp2
  have e1 := heap_setCell_same W p 0 _ _ (Value.bool x) HP.out
  have e2 := heap_setCell_same _ p 1 _ _ (Value.map (some mL)) e1
  have e3 := heap_setCell_same _ p 2 _ _ (Value.map (some mS)) e2
  have e4 := heap_setCell_same _ p 3 _ _ (Value.map (some mF)) e3
  exact ⟨rfl, .tuple #[], by simp [results, go_sem, Tryz.results188], rfl, e4, (((((Fr.refl (fun j => j = p) W).setCell (p := ⟨p, 0, none⟩) (.inl rfl) _).setCell (p := ⟨p, 1, none⟩) (.inl rfl) _).setCell (p := ⟨p, 2, none⟩) (.inl rfl) _).setCell (p := ⟨p, 3, none⟩) (.inl rfl) _)⟩
end Go.Proofs.YtefepfiijoafbaaGreat
namespace Go.Proofs.YtefepfiijoafbaaGreat
open Go.RowKit Go.Shelf Go.Maps
attribute [local go_sem] Oper.semAt_some
attribute [local go_sem ↓] Go.wp_at_zero Go.wp_at_succ
attribute [local irreducible] wpQuiet
set_option linter.unusedVariables false
set_option linter.unusedSimpArgs false

noncomputable def finB (n : Nat) : Code := lvSuf n ((Tryz.f119.body).getD .skip)
set_option maxRecDepth 100000 in
set_option maxHeartbeats 4000000 in
/-- delete(s.staged, o.Start); s.finals[o.Start] = o.Commit -/
theorem finT' {Kx : Act → World → Prop} {Q : Exit → Act → World → Prop} (hKx : ∀ a w, Code.wp Tryz.prog (finB 5) Q a w → Kx a w) (W : World) (f : Nat → Value) (R : Nat → Prop) (t : StB) (m : StM) (s : SS) (N : Nat) (h : StAt W R t m s N) (hN : N ≤ 100000) (o : Op) (V : OpS) (ho : o.wf) (B : Nat) (hB : W.heap[B]? = some (.cells (opEnc o V).toArray 38 (0, 0)))
    (hB1 : B ≠ t.mS) (hB2 : B ≠ t.mF) (h0 : f 0 = .pointer (some ⟨t.p, 0, none⟩)) (h3 : f 3 = .pointer (some ⟨B, 0, none⟩))
    (hQ : ∀ (f' : Nat → Value) (W' : World), f' 4 = .int .i64 0 → StAt W' R t m { s with staged := updI s.staged o.start none, finals := updI s.finals o.start (some o.commit) } (N + 1) → Fr (fun j => j = t.mS ∨ j = t.mF) W W' → Q .ret (frA 117 f') W') :
    Code.wp Tryz.prog (lvFst (finB 4)) (Exit.then Kx Q) (frA 117 f) W := by
  have hku := keyOf_int_mk Tryz.underlying33 ho.start
  obtain ⟨w6, hrun, hm6, hf6⟩ := (h.mapS.fr (Fr.refl N0 W).drew id).drop lawU Tryz.underlying120 hku 0
  have hf6' : Fr (fun j => j = t.mS) W w6 := (Fr.refl _ W).drew.trans hf6 fun _ e => .inl e
  have h6 := h.delS hf6' hm6
  obtain ⟨w7, hrun2, hm7, hf7⟩ := (h6.mapF.fr (Fr.refl N0 w6).drew id).store lawU Tryz.underlying44 (by unfold maxLen; omega) hku (.int .u64 o.commit)
  have hf7' : Fr (fun j => j = t.mF) w6 w7 := (Fr.refl _ w6).drew.trans hf7 fun _ e => .inl e
  have h7 := h6.putF hf7' hm7
  obtain ⟨m1, n1, l1⟩ := box_cells h.cells
  obtain ⟨mb, nb, lb⟩ := box_cells hB
  obtain ⟨m2, n2, l2⟩ := box_cells h6.cells
  obtain ⟨mb2, nb2, lb2⟩ := box_cells ((hf6'.at (k := B) hB1 lb).trans hB)
  have hfin := hQ
  have HQ := Lib.hid fun f' e => hQ f' w7 e h7 ((hf6'.mono fun _ e => .inl (.inl e)).trans hf7' fun _ e => .inl (.inr e))
  rw [opCells_eq] at mb mb2
  clear hfin hQ h6 h7 hm6 hm7 hf6 hf7 hf6' hf7' h hB ho hku
  obtain ⟨kd, st, cm, ws, ⟨tp, tt, tl, te, tm, to, tr, tc⟩, pr, at_, nt, np⟩ := o
  obtain ⟨wa, wc, ta, tc', pa, pc⟩ := V
  obtain ⟨nw, hnw⟩ : ∃ n, ws.length = n := ⟨_, rfl⟩
  obtain ⟨p, mL, mS, mF⟩ := t
  simp only [hnw] at *
  clear hnw
  show Code.wp _ _ _ { tmps := #[f 0, f 1, f 2, f 3, f 4, f 5, f 6, f 7, f 8, f 9, f 10, f 11, f 12, f 13, f 14, f 15, f 16, f 17, f 18, f 19, f 20, f 21, f 22, f 23, f 24, f 25, f 26, f 27, f 28, f 29, f 30, f 31, f 32, f 33, f 34, f 35, f 36, f 37, f 38, f 39, f 40, f 41, f 42, f 43, f 44, f 45, f 46, f 47, f 48, f 49, f 50, f 51, f 52, f 53, f 54, f 55, f 56, f 57, f 58, f 59, f 60, f 61, f 62, f 63, f 64, f 65, f 66, f 67, f 68, f 69, f 70, f 71, f 72, f 73, f 74, f 75, f 76, f 77, f 78, f 79, f 80, f 81, f 82, f 83, f 84, f 85, f 86, f 87, f 88, f 89, f 90, f 91, f 92, f 93, f 94, f 95, f 96, f 97, f 98, f 99, f 100, f 101, f 102, f 103, f 104, f 105, f 106, f 107, f 108, f 109, f 110, f 111, f 112, f 113, f 114, f 115, f 116], defers := [] } _
  rw [h0, h3]
  clear h0 h3
  conv => arg 2; whnf
  go_wp2_with fail
  refine wp_plainQ ?_
  have HKX := Lib.hid hKx
  clear hKx
  go_region_law (fail)
  all_goals
    refine HKX.out _ _ ?_
    conv => arg 2; whnf
    go_wp2_with fail
    refine wp_plainQ ?_
    go_region_law (fail)
  all_goals
    go_wp2
    refine cut_useQ (n := 117) (Q := Q) (e := .ret) _ rfl ?_
    exact HQ.out _ rfl
theorem finB4_eq : finB 4 = .seq (lvFst (finB 4)) (finB 5) := by kernel_rfl

set_option maxRecDepth 100000 in
set_option maxHeartbeats 4000000 in
/-- It is final. -/
theorem finHad (W : World) (R : Nat → Prop) (p : Nat) (s : SS) (N : Nat) (h : IsState W R p s N) (o : Op) (ho : o.wf) (V : OpS) (c : Int) (hl : s.finals o.start = some c) (E : Int) (hE : E = if c = o.commit then 0 else 210) :
    Calls Tryz.prog 119 #[.pointer (some ⟨p, 0, none⟩), .agg (opEnc o V).toArray] W (SPost W R p (s, E) (N + 1)) := by
  have hS := h
  obtain ⟨t, m, rfl, h⟩ := h
  obtain ⟨W0, hW0⟩ : ∃ W0, W.alloc (.cells (opEnc o V).toArray 38) = W0 := ⟨_, rfl⟩
  have hf0 : Fr N0 W W0 := by rw [← hW0]; exact (Fr.refl _ _).alloc _
  have hB : W0.heap[W.heap.size]? = some (.cells (opEnc o V).toArray 38 (0, 0)) := by rw [← hW0]; exact World.alloc_heap_new W _
  have hc := (hf0.at id h.lt.1).trans h.cells
  obtain ⟨m1, n1, l1⟩ := box_cells hc
  obtain ⟨mb, nb, lb⟩ := box_cells hB
  have hlk : (Instr.lookup 44 (.map (some t.mF)) (.int .u64 o.start) true).run Tryz.prog W0.drew = .ok (.tuple #[.int .u64 c, .bool true]) W0.drew :=
    ((h.mapF.fr hf0 id).fr (Fr.refl N0 W0).drew id).look_some lawU Tryz.underlying44 (zeroU64R _) (keyOf_int_mk Tryz.underlying33 ho.start) (by rw [viewF_at, hl]; rfl)
  have hpost : ∀ w', Fr N0 W w' → SPost W R t.p (s, E) (N + 1) (.returned (.int .i64 E)) w' := fun w' hf => SPost.same hS hf (Nat.le_succ N)
  obtain ⟨PP, hPP⟩ : ∃ A, SPost W R t.p (s, E) (N + 1) = A := ⟨_, rfl⟩
  rw [hPP] at hpost ⊢
  rw [opCells_eq] at hB mb hW0 ⊢
  have HLK := Lib.hid hlk; have HE := Lib.hid hE; have HPOST := Lib.hid hpost; have HF0 := Lib.hid hf0
  have hb : BoxO W0 t.p t.mL t.mS t.mF W.heap.size o.kind o.start o.commit V.wa o.ws.length V.wc o.sch.pred o.sch.ty o.sch.list o.sch.exact_ o.sch.term o.sch.order o.sch.rev o.sch.count o.pred o.at_ V.ta o.nt V.tc V.pa o.np V.pc W0 := ⟨m1, mb, l1, lb, Fr.refl _ _⟩
  have HBX := Lib.hid hb
  clear hE hpost hf0 hb hc hB mb nb lb m1 n1 l1 hPP hlk hS hl h ho
  obtain ⟨kd, st, cm, ws, ⟨tp, tt, tl, te, tm, to, tr, tc⟩, pr, at_, nt, np⟩ := o
  obtain ⟨wa, wc, ta, tc', pa, pc⟩ := V
  obtain ⟨nw, hnw⟩ : ∃ n, ws.length = n := ⟨_, rfl⟩
  simp only [hnw] at *
  clear hnw
  obtain ⟨p, mL, mS, mF⟩ := t
  have hlk := HLK.out
  simp only at *
  go_enter Tryz.func119, Tryz.ntmps119
  go_wp2_with fail
  go_region_held3 (BoxO W0 p mL mS mF W.heap.size kd st cm wa nw wc tp tt tl te tm to tr tc pr at_ ta nt tc' pa np pc) (first
    | (with_reducible assumption)
    | (with_reducible exact boxS2_keep (Fr.refl _ _).drew HBX.out)
    | fail) (fail)
  rename_i hHeld
  have HB1 := Lib.hid hHeld
  clear hHeld hlk HLK
  obtain ⟨m2, m3, l2, l3, -⟩ := HB1.out
  cases hcc : (c != cm) with
  | true =>
    obtain rfl : E = 210 := by rw [HE.out, if_neg (by simpa using hcc)]
    go_wp2
    (try go_ret)
    exact HPOST.out _ (HF0.out.then0 HB1.out.2.2.2.2)
  | false =>
    obtain rfl : c = cm := by simpa using hcc
    obtain rfl : E = 0 := by rw [HE.out, if_pos rfl]
    go_wp2
    (try go_ret)
    exact HPOST.out _ (HF0.out.then0 HB1.out.2.2.2.2)

set_option maxRecDepth 100000 in
set_option maxHeartbeats 4000000 in
/-- It is to be committed, and is not staged. -/
theorem finNone (W : World) (R : Nat → Prop) (p : Nat) (s : SS) (N : Nat) (h : IsState W R p s N) (o : Op) (ho : o.wf) (V : OpS) (hn : s.finals o.start = none) (hl : s.staged o.start = none) (h0 : o.commit ≠ 0) :
    Calls Tryz.prog 119 #[.pointer (some ⟨p, 0, none⟩), .agg (opEnc o V).toArray] W (SPost W R p (s, 211) (N + 1)) := by
  have hS := h
  obtain ⟨t, m, rfl, h⟩ := h
  obtain ⟨W0, hW0⟩ : ∃ W0, W.alloc (.cells (opEnc o V).toArray 38) = W0 := ⟨_, rfl⟩
  have hf0 : Fr N0 W W0 := by rw [← hW0]; exact (Fr.refl _ _).alloc _
  have hB : W0.heap[W.heap.size]? = some (.cells (opEnc o V).toArray 38 (0, 0)) := by rw [← hW0]; exact World.alloc_heap_new W _
  have hc := (hf0.at id h.lt.1).trans h.cells
  obtain ⟨m1, n1, l1⟩ := box_cells hc
  obtain ⟨mb, nb, lb⟩ := box_cells hB
  have hlk : (Instr.lookup 44 (.map (some t.mF)) (.int .u64 o.start) true).run Tryz.prog W0.drew = .ok (.tuple #[.int .u64 0, .bool false]) W0.drew :=
    ((h.mapF.fr hf0 id).fr (Fr.refl N0 W0).drew id).look_none lawU Tryz.underlying44 (zeroU64R _) (keyOf_int_mk Tryz.underlying33 ho.start) (by rw [viewF_at, hn]; rfl)
  have hlk2 : (Instr.lookup 120 (.map (some t.mS)) (.int .u64 o.start) true).run Tryz.prog W0.drew.drew = .ok (.tuple #[.slice none 0 0, .bool false]) W0.drew.drew :=
    ((h.mapS.fr hf0 id).fr (Fr.refl N0 W0).drew.drew id).look_none lawU Tryz.underlying120 (zeroWsR _) (keyOf_int_mk Tryz.underlying33 ho.start) (by rw [viewS_at, hl]; rfl)
  have h0' : (o.commit != 0) = true := by simpa using h0
  have hpost : ∀ w', Fr N0 W w' → SPost W R t.p (s, 211) (N + 1) (.returned (.int .i64 211)) w' := fun w' hf => SPost.same hS hf (Nat.le_succ N)
  obtain ⟨PP, hPP⟩ : ∃ A, SPost W R t.p (s, 211) (N + 1) = A := ⟨_, rfl⟩
  rw [hPP] at hpost ⊢
  rw [opCells_eq] at hB mb hW0 ⊢
  have HLK := Lib.hid hlk; have HLK2 := Lib.hid hlk2; have H0 := Lib.hid h0'; have HPOST := Lib.hid hpost; have HF0 := Lib.hid hf0
  have hb : BoxO W0 t.p t.mL t.mS t.mF W.heap.size o.kind o.start o.commit V.wa o.ws.length V.wc o.sch.pred o.sch.ty o.sch.list o.sch.exact_ o.sch.term o.sch.order o.sch.rev o.sch.count o.pred o.at_ V.ta o.nt V.tc V.pa o.np V.pc W0 := ⟨m1, mb, l1, lb, Fr.refl _ _⟩
  have HBX := Lib.hid hb
  clear h0 h0' hn hlk2 hpost hf0 hb hc hB mb nb lb m1 n1 l1 hPP hlk hS hl h ho
  obtain ⟨kd, st, cm, ws, ⟨tp, tt, tl, te, tm, to, tr, tc⟩, pr, at_, nt, np⟩ := o
  obtain ⟨wa, wc, ta, tc', pa, pc⟩ := V
  obtain ⟨nw, hnw⟩ : ∃ n, ws.length = n := ⟨_, rfl⟩
  simp only [hnw] at *
  clear hnw
  obtain ⟨p, mL, mS, mF⟩ := t
  have hlk := HLK.out
  simp only at *
  go_enter Tryz.func119, Tryz.ntmps119
  go_wp2_with fail
  go_region_held3 (BoxO W0 p mL mS mF W.heap.size kd st cm wa nw wc tp tt tl te tm to tr tc pr at_ ta nt tc' pa np pc) (first
    | (with_reducible assumption)
    | (with_reducible exact boxS2_keep (Fr.refl _ _).drew HBX.out)
    | fail) (fail)
  rename_i hHeld
  have HB1 := Lib.hid hHeld
  clear hHeld hlk HLK
  have hlk2 := HLK2.out
  go_wp2_with fail
  go_region_held3 (BoxO W0 p mL mS mF W.heap.size kd st cm wa nw wc tp tt tl te tm to tr tc pr at_ ta nt tc' pa np pc) (first
    | (with_reducible assumption)
    | (with_reducible exact boxS2_keep (Fr.refl _ _).drew HB1.out)
    | fail) (fail)
  rename_i hHeld
  have HB2 := Lib.hid hHeld
  obtain ⟨m2, m3, l2, l3, -⟩ := hHeld
  clear hlk2 HLK2
  have h0 := H0.out
  go_wp2
  (try go_ret)
  exact HPOST.out _ (HF0.out.then0 HB2.out.2.2.2.2)

end Go.Proofs.YtefepfiijoafbaaGreat
namespace Go.Proofs.YtefepfiijoafbaaGreat
open Go.RowKit Go.Shelf Go.Maps
attribute [local go_sem] Oper.semAt_some
attribute [local go_sem ↓] Go.wp_at_zero Go.wp_at_succ
attribute [local irreducible] wpQuiet
set_option linter.unusedVariables false
set_option linter.unusedSimpArgs false

set_option maxRecDepth 100000 in
set_option maxHeartbeats 4000000 in
/-- It is given up. -/
theorem finAbort (W : World) (R : Nat → Prop) (p : Nat) (s : SS) (N : Nat) (h : IsState W R p s N) (o : Op) (ho : o.wf) (V : OpS) (hn : s.finals o.start = none) (h0 : o.commit = 0) (hN : N ≤ 100000) :
    Calls Tryz.prog 119 #[.pointer (some ⟨p, 0, none⟩), .agg (opEnc o V).toArray] W (SPost W R p ({ s with staged := updI s.staged o.start none, finals := updI s.finals o.start (some 0) }, 0) (N + 1)) := by
  have hS := h
  obtain ⟨t, m, rfl, h⟩ := h
  obtain ⟨W0, hW0⟩ : ∃ W0, W.alloc (.cells (opEnc o V).toArray 38) = W0 := ⟨_, rfl⟩
  have hf0 : Fr N0 W W0 := by rw [← hW0]; exact (Fr.refl _ _).alloc _
  have hB : W0.heap[W.heap.size]? = some (.cells (opEnc o V).toArray 38 (0, 0)) := by rw [← hW0]; exact World.alloc_heap_new W _
  have hc := (hf0.at id h.lt.1).trans h.cells
  obtain ⟨m1, n1, l1⟩ := box_cells hc
  obtain ⟨mb, nb, lb⟩ := box_cells hB
  have hlk : (Instr.lookup 44 (.map (some t.mF)) (.int .u64 o.start) true).run Tryz.prog W0.drew = .ok (.tuple #[.int .u64 0, .bool false]) W0.drew :=
    ((h.mapF.fr hf0 id).fr (Fr.refl N0 W0).drew id).look_none lawU Tryz.underlying44 (zeroU64R _) (keyOf_int_mk Tryz.underlying33 ho.start) (by rw [viewF_at, hn]; rfl)
  have hlk2 : (Instr.lookup 120 (.map (some t.mS)) (.int .u64 o.start) true).run Tryz.prog W0.drew.drew = .ok (.tuple #[((viewS s.staged m.sv) (litU o.start)).getD (.slice none 0 0), .bool ((viewS s.staged m.sv) (litU o.start)).isSome]) W0.drew.drew :=
    (((h.mapS.fr hf0 id).fr (Fr.refl N0 W0).drew.drew id).look lawU Tryz.underlying120 (zeroWsR _) (keyOf_int_mk Tryz.underlying33 ho.start)).2
  obtain ⟨vw, hvw⟩ : ∃ v, ((viewS s.staged m.sv) (litU o.start)).getD (.slice none 0 0) = v := ⟨_, rfl⟩
  obtain ⟨vb, hvb⟩ : ∃ v, ((viewS s.staged m.sv) (litU o.start)).isSome = v := ⟨_, rfl⟩
  rw [hvw, hvb] at hlk2
  have hpost : ∀ w' W4, Fr N0 W W4 → StAt w' R t m { s with staged := updI s.staged o.start none, finals := updI s.finals o.start (some o.commit) } (N + 1) → Fr (fun j => j = t.mS ∨ j = t.mF) W4 w' → SPost W R t.p ({ s with staged := updI s.staged o.start none, finals := updI s.finals o.start (some 0) }, 0) (N + 1) (.returned (.int .i64 0)) w' := fun w' W4 g1 g2 g3 => by
    rw [h0] at g2
    exact ⟨rfl, R, ⟨t, m, rfl, g2⟩, fun _ h => .inl h, (g1.mono fun _ h => h.elim).trans g3 fun k e => .inl (e.elim (fun e => e ▸ h.inR.2.2.1) fun e => e ▸ h.inR.2.2.2)⟩
  have hTail := fun (W4 : World) (hf : Fr N0 W W4) (hB4 : W4.heap[W.heap.size]? = some (.cells (opEnc o V).toArray 38 (0, 0))) (Kx : Act → World → Prop) (Q : Exit → Act → World → Prop) (f : Nat → Value) hKx g0 g3 hQ => finT' (Kx := Kx) (Q := Q) hKx W4 f R t m s N (h.fr hf fun _ _ => id) hN o V ho W.heap.size hB4 (by have := h.lt; omega) (by have := h.lt; omega) g0 g3 hQ
  have HBW := Lib.hid hB
  obtain ⟨PP, hPP⟩ : ∃ A, SPost W R t.p ({ s with staged := updI s.staged o.start none, finals := updI s.finals o.start (some 0) }, 0) (N + 1) = A := ⟨_, rfl⟩
  rw [hPP] at hpost ⊢
  simp only [opCells_eq] at hB mb hW0 hTail HBW ⊢
  have HLK := Lib.hid hlk; have HLK2 := Lib.hid hlk2; have H0 := Lib.hid h0; have HT := Lib.hid hTail; have HPOST := Lib.hid hpost; have HF0 := Lib.hid hf0
  have hb : BoxO W0 t.p t.mL t.mS t.mF W.heap.size o.kind o.start o.commit V.wa o.ws.length V.wc o.sch.pred o.sch.ty o.sch.list o.sch.exact_ o.sch.term o.sch.order o.sch.rev o.sch.count o.pred o.at_ V.ta o.nt V.tc V.pa o.np V.pc W0 := ⟨m1, mb, l1, lb, Fr.refl _ _⟩
  have HBX := Lib.hid hb
  clear hvw hvb hTail h0 hn hlk2 hpost hf0 hb hc hB mb nb lb m1 n1 l1 hPP hlk hS h ho
  obtain ⟨kd, st, cm, ws, ⟨tp, tt, tl, te, tm, to, tr, tc⟩, pr, at_, nt, np⟩ := o
  obtain ⟨wa, wc, ta, tc', pa, pc⟩ := V
  obtain ⟨nw, hnw⟩ : ∃ n, ws.length = n := ⟨_, rfl⟩
  simp only [hnw] at *
  clear hnw
  obtain ⟨p, mL, mS, mF⟩ := t
  have hlk := HLK.out
  simp only at *
  go_enter Tryz.func119, Tryz.ntmps119
  go_wp2_with fail
  go_region_held3 (BoxO W0 p mL mS mF W.heap.size kd st cm wa nw wc tp tt tl te tm to tr tc pr at_ ta nt tc' pa np pc) (first
    | (with_reducible assumption)
    | (with_reducible exact boxS2_keep (Fr.refl _ _).drew HBX.out)
    | fail) (fail)
  rename_i hHeld
  have HB1 := Lib.hid hHeld
  clear hHeld hlk HLK
  have hlk2 := HLK2.out
  go_wp2_with fail
  go_region_held3 (BoxO W0 p mL mS mF W.heap.size kd st cm wa nw wc tp tt tl te tm to tr tc pr at_ ta nt tc' pa np pc) (first
    | (with_reducible assumption)
    | (with_reducible exact boxS2_keep (Fr.refl _ _).drew HB1.out)
    | fail) (fail)
  rename_i hHeld
  have HB2 := Lib.hid hHeld
  obtain ⟨m2, m3, l2, l3, -⟩ := hHeld
  clear hlk2 HLK2
  obtain rfl : cm = 0 := H0.out
  go_wp2_with fail
  rename_i Kx hKx
  refine wp_frA _ rfl ?_
  have hf4 := HB2.out.2.2.2.2
  refine HT.out _ (HF0.out.then0 hf4) ((hf4.at (k := W.heap.size) id (lt_of_block HBW.out)).trans HBW.out) Kx _ _ hKx rfl rfl fun f' W' e4 g1 g2 => ?_
  exact bodyPost_ret (v := .int .i64 0) (by simp [results, frA, Tryz.results119, go_sem, e4]) rfl (HPOST.out _ _ (HF0.out.then0 hf4) g1 g2)

end Go.Proofs.YtefepfiijoafbaaGreat
