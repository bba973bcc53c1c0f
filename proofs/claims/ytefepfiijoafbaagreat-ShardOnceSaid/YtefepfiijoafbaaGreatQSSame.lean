/- Same: lists that are the same are found the same. Same: states that are the same are found the same. -/
import Derived.Test.YtefepfiijoafbaaGreatQShP
import Derived.Test.YtefepfiijoafbaaGreatQQuiet
import Derived.Test.YtefepfiijoafbaaGreatQSMay
namespace Go.Proofs.YtefepfiijoafbaaGreat
open Go.RowKit Go.Shelf
attribute [local go_sem] Oper.semAt_some
attribute [local irreducible] wpQuiet
set_option linter.unusedVariables false
set_option linter.unusedSimpArgs false

set_option maxRecDepth 100000 in
set_option maxHeartbeats 2000000 in
theorem pSame1_any (w : World) (t : Int) (v z : Value) (b b' : Nat) (xs : List Wr) (h : Wrs w b v xs) (h' : Wrs w b' z xs) (hl : xs.length ≤ 1000000) :
    Calls Tryz.prog 125 #[.agg #[.int .u64 t, v], .agg #[.int .u64 t, z]] w fun e w' => e = .returned (.bool true) ∧ Fr N0 w w' := by
  have hE := fun W (hf : Fr N0 w W) => eqW_any W b b' v z xs (h.fr0 hf) (h'.fr0 hf) hl
  have HE := Lib.hid hE
  clear hE h h'
  go_enter Tryz.func125, Tryz.ntmps125
  go_wp2_with (go_at_call 58; refine (HE.out _ (((Fr.refl N0 w).alloc _).alloc _)).mono ?_; rintro e w1 ⟨rfl, hf1⟩)
  go_ret
  exact ⟨rfl, (((Fr.refl N0 w).alloc _).alloc _).then0 hf1⟩

set_option maxRecDepth 100000 in
set_option maxHeartbeats 2000000 in
theorem eqFC_any (w : World) (b b' : Nat) (v z : Value) (cs ds : List CmV) (h : RowsK CmV.enc 2 w b v cs) (h' : RowsK CmV.enc 2 w b' z ds) (hl : cs.length = ds.length) (hn : cs.length ≤ 1000000)
    (hE : ∀ i (h : i < cs.length) (h' : i < ds.length) W, Fr N0 w W → Calls Tryz.prog 125 #[.agg cs[i].enc.toArray, .agg ds[i].enc.toArray] W fun e w' => e = .returned (.bool true) ∧ Fr N0 W w') :
    Calls Tryz.prog 124 #[v, z, .func (.func 125) #[] #[]] w fun e w' => e = .returned (.bool true) ∧ Fr N0 w w' := by
  obtain ⟨a, off, cap, rfl, h1, h2, h3, h4, h5⟩ := h
  obtain ⟨a', off', cap', rfl, h1', h2', h3', h4', h5'⟩ := h'
  have HC := Lib.hid h5; have HC' := Lib.hid h5'; have HE := Lib.hid hE
  obtain ⟨n, hn1⟩ : ∃ n, cs.length = n := ⟨_, rfl⟩
  have hn2 : ds.length = n := by omega
  have HL := Lib.hid hn1; have HL' := Lib.hid hn2
  rw [hn1] at h1 h3 hn ⊢
  rw [hn2] at h1' h3' ⊢
  clear h5 h4 h5' h4' hE hl hn1 hn2
  go_enter Tryz.func124, Tryz.ntmps124
  go_wp2
  go_loopw [17] (fun i wr => ∃ k : Nat, k ≤ n ∧ i = .int .i64 k ∧ Fr N0 w wr) (fun i _ => n - (intOf i).toNat)
  case atStart => exact ⟨0, Nat.zero_le _, rfl, Fr.refl _ _⟩
  case round =>
    obtain ⟨k, hk, rfl, hfr⟩ := hrel
    by_cases hlt : k < n
    · obtain rfl := h3 (by omega)
      obtain rfl := h3' (by omega)
      have hc : k < cs.length := by rw [HL.out]; exact hlt
      have hd : k < ds.length := by rw [HL'.out]; exact hlt
      have e0 := hfr.cell (fun h => h) (HC.out _ hc 0 (by decide))
      have e1 := hfr.cell (fun h => h) (HC.out _ hc 1 (by decide))
      have g0 := hfr.cell (fun h => h) (HC'.out _ hd 0 (by decide))
      have g1 := hfr.cell (fun h => h) (HC'.out _ hd 1 (by decide))
      have hcall := HE.out k hc hd
      obtain ⟨x, hx⟩ : ∃ x, cs[k] = x := ⟨_, rfl⟩
      obtain ⟨y, hy⟩ : ∃ x, ds[k] = x := ⟨_, rfl⟩
      simp only [hx, hy] at e0 e1 g0 g1 hcall
      clear hx hy hc hd
      obtain ⟨t, xa, xn, xc⟩ := x
      obtain ⟨u, ya, yn, yc⟩ := y
      simp only [CmV.enc, List.getElem?_cons_zero, List.getElem?_cons_succ, Nat.add_zero] at e0 e1 g0 g1 hcall
      have hki : (k : Int) < (n : Int) := by omega
      replace g0 := fun o => ((Fr.refl N0 wr).alloc o).cell id g0
      replace g1 := fun o => ((Fr.refl N0 wr).alloc o).cell id g1
      have HCALL := Lib.hid hcall; have HFR := Lib.hid hfr
      clear hcall hfr
      go_wp2_with (go_at_call 125; refine (HCALL.out _ (((HFR.out.alloc _).alloc _))).mono ?_; rintro e w1 ⟨rfl, hf1⟩)
      go_roundw
      case rel => exact ⟨k + 1, by omega, by go_num, (((HFR.out.alloc _).alloc _)).then0 hf1⟩
      case measure => simp [intOf]; omega
    · go_wp2
      go_ret
      exact ⟨rfl, hfr⟩

/-- Two boxes that lie. -/
theorem boxS2_kept {W0 : World} {B C : Nat} {cs ds : Array Value} {W : World} (h : BoxS2 W0 B cs C ds W) : Kept (BoxS2 W0 B cs C ds) W := ⟨h, fun _ _ hf h => boxS2_keep hf h⟩

set_option maxRecDepth 100000 in
set_option maxHeartbeats 2000000 in
theorem pSame_any (W : World) (R R' : Nat → Prop) (p q : Nat) (l : PL) (h : IsPL W R p l) (h' : IsPL W R' q l) (hs : 0 < l.s.pred.size) (hl : l.commits.length ≤ 1000000) (hw : ∀ c ∈ l.commits, c.writes.length ≤ 1000000) (ht : ∀ t ∈ l.times, (Lit.int .u64 t).wf = true) :
    Calls Tryz.prog 56 #[.pointer (some ⟨p, 0, none⟩), .pointer (some ⟨q, 0, none⟩)] W fun e w' => e = .returned (.bool true) ∧ Fr N0 W w' := by
  obtain ⟨vt, vc, cs, h1, -, ⟨h3, -⟩, ⟨h5, h6, -⟩, h8⟩ := h
  obtain ⟨vt', vc', ds, h1', -, ⟨h3', -⟩, ⟨h5', h6', -⟩, h8'⟩ := h'
  obtain ⟨m, n, lt⟩ := box_cells h1
  obtain ⟨m', n', lt'⟩ := box_cells h1'
  have hn := fun W' (hf : Fr N0 W W') => pNone_any W' p l.s.pred (hf.cell id (m 0)) hs
  have hn' := fun W' (hf : Fr N0 W W') => pNone_any W' q l.s.pred (hf.cell id (m' 0)) hs
  obtain ⟨b1, -, r1⟩ := rowsK_of_row (enc := enc4) (n := 1) ins4_len (by decide) h3
  obtain ⟨b2, -, r2⟩ := rowsK_of_row (enc := enc4) (n := 1) ins4_len (by decide) h3'
  have hI : ∀ (b : Nat) (v : Value), RowsK enc4 1 W b v l.times → Ints .u64 W b v l.times := fun b v hr => by
    obtain ⟨a, off, cap, g1, g2, g3, g4, g5, g6⟩ := hr
    exact ⟨a, off, cap, g1, g2, g3, g4, g5, fun i hi => by simpa [enc4] using g6 i hi 0 (by decide), ht⟩
  have he4 := fun W' (hf : Fr N0 W W') => eq4_any W' b1 b2 vt vt' l.times l.times ((hI _ _ r1).fr0 hf) ((hI _ _ r2).fr0 hf)
  simp only [decide_true] at he4
  obtain ⟨b3, -, r3⟩ := rowsK_of_row (enc := CmV.enc) (n := 2) insC_len (by decide) h5
  obtain ⟨b4, -, r4⟩ := rowsK_of_row (enc := CmV.enc) (n := 2) insC_len (by decide) h5'
  have hec := fun W' (hf : Fr N0 W W') => eqFC_any W' b3 b4 vc vc' cs ds (r3.fr0 insC_len hf) (r4.fr0 insC_len hf) (by omega) (by omega) fun i hi hi' W2 hf2 => by
    obtain ⟨e1, bb, g1, -⟩ := h8 i hi (by omega)
    obtain ⟨e2, bb', g2, -⟩ := h8' i hi' (by omega)
    have := pSame1_any W2 cs[i].time (.slice cs[i].a cs[i].n cs[i].c) (.slice ds[i].a ds[i].n ds[i].c) bb bb' _ (g1.fr0 (hf.then0 hf2)) (g2.fr0 (hf.then0 hf2)) (hw _ (List.getElem_mem (by omega)))
    have e3 : ds[i].time = cs[i].time := by omega
    simp only [CmV.enc, e3]
    exact this
  have HN := Lib.hid hn; have HN' := Lib.hid hn'; have HE4 := Lib.hid he4; have HEC := Lib.hid hec
  clear hn hn' he4 hec h3 h3' h5 h5' h8 h8' r1 r2 r3 r4 hI h6 h6'
  have hb : BoxS2 W p #[.string l.s.pred, .int .u8 l.s.ty, .bool l.s.list, .bool l.s.exact_, .bool l.s.term, .bool l.s.order, .bool l.s.rev, .bool l.s.count, .int .u64 l.marked, vt, vc] q #[.string l.s.pred, .int .u8 l.s.ty, .bool l.s.list, .bool l.s.exact_, .bool l.s.term, .bool l.s.order, .bool l.s.rev, .bool l.s.count, .int .u64 l.marked, vt', vc'] W := ⟨m, m', lt, lt', Fr.refl _ _⟩
  clear m n m' n' lt lt' h1 h1' ht hw hl
  obtain ⟨⟨sp, st, sl, se, sm, so, sr, sc⟩, mk, ts, cms⟩ := l
  simp only at hb
  clear hs
  go_enter Tryz.func56, Tryz.ntmps56
  go_wp2
  obtain ⟨S, hK, hx, hSS⟩ := kept_open (boxS2_kept hb)
  have HSS := Lib.hid hSS
  clear hSS
  have x1 := fun x => (hx x).1
  have x2 := fun x => (hx x).2.1
  have x3 := fun x => Lib.hid (hx x).2.2.2.2
  clear hx
  refine wp_region_kept hK (by kernel_rfl) (by kernel_rfl) ?_
  intro hne
  repeat (quiet_step (first
    | (go_at_call 71; with_reducible exact calls_kept hK (HN.out _ (x3 _).out))
    | (go_at_call 71; with_reducible exact calls_kept hK (HN'.out _ (x3 _).out))
    | (go_at_call 123; with_reducible exact calls_kept hK (HE4.out _ (x3 _).out))
    | fail))
  refine wpQuiet_nil ?_
  rintro wq ⟨⟨_, hq⟩, rfl⟩
  replace hq := HSS.out _ hq
  clear x1 x2 x3 hK hne HSS S hb
  go_wp2
  obtain ⟨S, hK, hx, hSS⟩ := kept_open (boxS2_kept hq)
  have HSS := Lib.hid hSS
  clear hSS
  have x1 := fun x => (hx x).1
  have x2 := fun x => (hx x).2.1
  have x3 := fun x => Lib.hid (hx x).2.2.2.2
  clear hx
  refine wp_region_kept hK (by kernel_rfl) (by kernel_rfl) ?_
  intro hne
  repeat (quiet_step (first
    | (go_at_call 124; with_reducible exact calls_kept hK (HEC.out _ (x3 _).out))
    | fail))
  refine wpQuiet_nil ?_
  rintro wr ⟨⟨_, hr⟩, rfl⟩
  replace hr := Lib.hid (HSS.out _ hr).2.2.2.2
  clear x1 x2 x3 hK hne HSS S hq
  go_wp2
  go_ret
  exact ⟨rfl, hr.out⟩
end Go.Proofs.YtefepfiijoafbaaGreat
namespace Go.Proofs.YtefepfiijoafbaaGreat
open Go.RowKit Go.Shelf Go.Maps
attribute [local go_sem] Oper.semAt_some
attribute [local irreducible] wpQuiet
set_option linter.unusedVariables false
set_option linter.unusedSimpArgs false

set_option maxRecDepth 100000 in
set_option maxHeartbeats 2000000 in
theorem sSame_any (W : World) (R R' : Nat → Prop) (p q : Nat) (s : SS) (N M K : Nat) (h : IsState W R p s N) (h' : IsState W R' q s M) (hF : s.Fine K) (hK : K ≤ 100000) :
    Calls Tryz.prog 14 #[.pointer (some ⟨p, 0, none⟩), .pointer (some ⟨q, 0, none⟩)] W fun e w' => e = .returned (.bool true) ∧ Fr N0 W w' := by
  obtain ⟨t, m, rfl, h⟩ := h
  obtain ⟨t', m', rfl, h'⟩ := h'
  obtain ⟨m1, n1, l1⟩ := box_cells h.cells
  obtain ⟨m2, n2, l2⟩ := box_cells h'.cells
  have hn := fun w' (hf : Fr N0 W w') => sNone_any w' t.p (hf.cell id (m1 0))
  have hn' := fun w' (hf : Fr N0 W w') => sNone_any w' t'.p (hf.cell id (m2 0))
  have hL := fun w' (hf : Fr N0 W w') => mEqL_any w' t.mL t'.mL N M _ _ (h.mapL.fr hf id) (h'.mapL.fr hf id) (fun kl => by
    unfold viewL
    split
    · rename_i l; cases s.lists (mkS l) <;> rfl
    · rfl) (fun kl v u hv hu w2 hf2 => by
    unfold viewL at hv hu
    split at hv
    · rename_i l
      cases hl : s.lists (mkS l) with
      | none => rw [hl] at hv; cases hv
      | some pl =>
        dsimp only at hu
        rw [hl] at hv hu
        simp only [Option.map_some, Option.some.injEq] at hv hu
        subst hv hu
        have hfine := hF.lists _ _ hl
        have := hfine.commits
        exact pSame_any w2 (m.RL (mkS l)) (m'.RL (mkS l)) _ _ pl ((h.lists.1 _ _ hl).fr (hf.then0 hf2) fun _ _ => id) ((h'.lists.1 _ _ hl).fr (hf.then0 hf2) fun _ _ => id) hfine.size' (by omega) (fun c hc => by have := (hfine.writes c hc).1; omega) hfine.twf
    · cases hv)
  have hS := fun w' (hf : Fr N0 W w') => mEqW_any w' t.mS t'.mS N M _ _ (h.mapS.fr hf id) (h'.mapS.fr hf id) (fun kl => by
    unfold viewS
    split
    · rename_i l; cases s.staged l <;> rfl
    · rfl) (fun kl v u hv hu w2 hf2 => by
    unfold viewS at hv hu
    split at hv
    · rename_i l
      cases hl : s.staged l with
      | none => rw [hl] at hv; cases hv
      | some ws =>
        dsimp only at hu
        rw [hl] at hv hu
        simp only [Option.map_some, Option.some.injEq] at hv hu
        subst hv hu
        have := (hF.staged _ _ hl).2.1
        exact eqW_any w2 _ _ _ _ ws ((h.staged _ _ hl).1.fr0 (hf.then0 hf2)) ((h'.staged _ _ hl).1.fr0 (hf.then0 hf2)) (by omega)
    · cases hv)
  have hF4 := fun w' (hf : Fr N0 W w') => mEq4_any w' t.mF t'.mF N M _ _ (h.mapF.fr hf id) (h'.mapF.fr hf id) (fun _ => rfl) (fun kl v hv => by
    unfold viewF at hv
    split at hv
    · rename_i l
      cases hl : s.finals l with
      | none => rw [hl] at hv; cases hv
      | some c => rw [hl] at hv; simp at hv; exact ⟨c, hv.symm⟩
    · cases hv)
  have hb : BoxS2 W t.p #[.bool true, .map (some t.mL), .map (some t.mS), .map (some t.mF)] t'.p #[.bool true, .map (some t'.mL), .map (some t'.mS), .map (some t'.mF)] W := ⟨m1, m2, l1, l2, Fr.refl _ _⟩
  have HN := Lib.hid hn; have HN' := Lib.hid hn'; have HL := Lib.hid hL; have HS := Lib.hid hS; have HF4 := Lib.hid hF4
  clear hn hn' hL hS hF4 m1 n1 l1 m2 n2 l2 h h' hF
  obtain ⟨p, mL, mS, mF⟩ := t
  obtain ⟨p', mL', mS', mF'⟩ := t'
  simp only at *
  go_enter Tryz.func14, Tryz.ntmps14
  go_wp2
  obtain ⟨S, hK2, hx, hSS⟩ := kept_open (boxS2_kept hb)
  have HSS := Lib.hid hSS
  clear hSS
  have x1 := fun x => (hx x).1
  have x2 := fun x => (hx x).2.1
  have x3 := fun x => Lib.hid (hx x).2.2.2.2
  clear hx
  refine wp_region_kept hK2 (by kernel_rfl) (by kernel_rfl) ?_
  intro hne
  repeat (quiet_step (first
    | (go_at_call 52; with_reducible exact calls_kept hK2 (HN.out _ (x3 _).out))
    | (go_at_call 52; with_reducible exact calls_kept hK2 (HN'.out _ (x3 _).out))
    | (go_at_call 55; with_reducible exact calls_kept hK2 (HL.out _ (x3 _).out))
    | (go_at_call 57; with_reducible exact calls_kept hK2 (HS.out _ (x3 _).out))
    | (go_at_call 59; with_reducible exact calls_kept hK2 (HF4.out _ (x3 _).out))
    | fail))
  refine wpQuiet_nil ?_
  rintro wr ⟨⟨_, hr⟩, rfl⟩
  replace hr := Lib.hid (HSS.out _ hr).2.2.2.2
  clear x1 x2 x3 hK2 hne HSS S
  go_wp2
  go_ret
  exact ⟨rfl, hr.out⟩
end Go.Proofs.YtefepfiijoafbaaGreat
