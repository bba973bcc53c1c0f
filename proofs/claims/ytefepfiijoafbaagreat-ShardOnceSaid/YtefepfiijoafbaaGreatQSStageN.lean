/- stage, where the start is new. -/
import Derived.Test.YtefepfiijoafbaaGreatQSStageH
namespace Go.Proofs.YtefepfiijoafbaaGreat
open Go.RowKit Go.Shelf Go.Maps
attribute [local go_sem] Oper.semAt_some
attribute [local go_sem ↓] Go.wp_at_zero Go.wp_at_succ
attribute [local irreducible] wpQuiet
set_option linter.unusedVariables false
set_option linter.unusedSimpArgs false

/-- Three boxes that lie. -/
abbrev Box3 (W0 : World) (B : Nat) (cs : Array Value) (C : Nat) (ds : Array Value) (A : Nat) (es : Array Value) (W : World) : Prop := BoxS2 W0 B cs C ds W ∧ (∀ i, W.cell? ⟨A, i, none⟩ = es[i]?) ∧ A < W.heap.size
theorem box3_keep {W0 : World} {B C A : Nat} {cs ds es : Array Value} {W W' : World} (hf : Fr N0 W W') (h : Box3 W0 B cs C ds A es W) : Box3 W0 B cs C ds A es W' :=
  ⟨boxS2_keep hf h.1, fun i => (cell_same (p := ⟨A, i, none⟩) (hf.at id h.2.2)).trans (h.2.1 i), Nat.lt_of_lt_of_le h.2.2 hf.size⟩
theorem box3_mk {W0 : World} {B C : Nat} {cs ds es : Array Value} {W : World} {t : TypeId} (h : BoxS2 W0 B cs C ds W) : Box3 W0 B cs C ds W.heap.size es (W.alloc (.cells es t)) :=
  ⟨boxS2_keep ((Fr.refl N0 W).alloc _) h, (boxS_new W es t).1, (boxS_new W es t).2.1⟩

set_option maxRecDepth 100000 in
set_option maxHeartbeats 8000000 in
theorem stageNew (W : World) (R : Nat → Prop) (p : Nat) (s : SS) (N : Nat) (h : IsState W R p s N) (hF : s.Fine N) (hN : N ≤ 100000) (o : Op) (ho : o.wf) (V : OpS) (b : Nat) (hw : Wrs W b (.slice V.wa o.ws.length V.wc) o.ws) (hn : s.finals o.start = none) (hl : s.staged o.start = none) (hwl : o.ws.length ≤ 256) (hwm : ∀ y ∈ o.ws, trMay y = 0) :
    Calls Tryz.prog 118 #[.pointer (some ⟨p, 0, none⟩), .agg (opEnc o V).toArray] W (SPost W R p (sStage s o.start o.ws) (N + 1)) := by
  have hS := h
  obtain ⟨t, m, rfl, h⟩ := h
  obtain ⟨W0, hW0⟩ : ∃ W0, W.alloc (.cells (opEnc o V).toArray 38) = W0 := ⟨_, rfl⟩
  have hf0 : Fr N0 W W0 := by rw [← hW0]; exact (Fr.refl _ _).alloc _
  have hB : W0.heap[W.heap.size]? = some (.cells (opEnc o V).toArray 38 (0, 0)) := by rw [← hW0]; exact World.alloc_heap_new W _
  have hc := (hf0.at id h.lt.1).trans h.cells
  obtain ⟨m1, n1, l1⟩ := box_cells hc
  obtain ⟨mb, nb, lb⟩ := box_cells hB
  have hku := keyOf_int_mk Tryz.underlying33 ho.start
  have hlk : (Instr.lookup 44 (.map (some t.mF)) (.int .u64 o.start) true).run Tryz.prog W0.drew = .ok (.tuple #[.int .u64 0, .bool false]) W0.drew :=
    ((h.mapF.fr hf0 id).fr (Fr.refl N0 W0).drew id).look_none lawU Tryz.underlying44 (zeroU64R _) hku (by rw [viewF_at, hn]; rfl)
  have hlk2 : (Instr.lookup 120 (.map (some t.mS)) (.int .u64 o.start) true).run Tryz.prog W0.drew.drew = .ok (.tuple #[.slice none 0 0, .bool false]) W0.drew.drew :=
    ((h.mapS.fr hf0 id).fr (Fr.refl N0 W0).drew.drew id).look_none lawU Tryz.underlying120 (zeroWsR _) hku (by rw [viewS_at, hl]; rfl)
  -- a write's look-up, its list's schema
  have hlist : ∀ y ∈ o.ws, ∀ W', Fr N0 W W' → (s.lists y.pred = none ∧ (Instr.lookup 119 (.map (some t.mL)) (.string y.pred) true).run Tryz.prog W' = .ok (.tuple #[.pointer none, .bool false]) W') ∨
      ∃ l pl, s.lists y.pred = some l ∧ (Instr.lookup 119 (.map (some t.mL)) (.string y.pred) true).run Tryz.prog W' = .ok (.tuple #[.pointer (some ⟨pl, 0, none⟩), .bool true]) W' ∧
        ∀ W2, Fr N0 W W2 → Calls Tryz.prog 81 #[.pointer (some ⟨pl, 0, none⟩)] W2 fun e w' => e = .returned (.agg l.s.enc.toArray) ∧ Fr N0 W2 w' := fun y hy W' hf => by
    have hsz := predOk_size (trMay_pred (hwm y hy))
    have hk : keyOf Tryz.prog 9 (.string y.pred) = some (litS y.pred) := Go.WideMaps.keyOf_string_mk Tryz.underlying9 (by unfold maxLen; omega)
    cases hq : s.lists y.pred with
    | none => exact .inl ⟨rfl, (h.mapL.fr hf id).look_none lawSt Tryz.underlying119 (zeroPLR _) hk (by rw [viewL_at, hq]; rfl)⟩
    | some l => exact .inr ⟨l, m.pt y.pred, rfl, (h.mapL.fr hf id).look_some lawSt Tryz.underlying119 (zeroPLR _) hk (by rw [viewL_at, hq]; rfl), fun W2 hf2 => schema_any W2 (m.RL y.pred) (m.pt y.pred) l ((h.lists.1 _ _ hq).fr hf2 fun _ _ => id) (hF.lists _ _ hq).size'⟩
  have hfit := fun (y : Wr) (hy : y ∈ o.ws) (l : PL) W' => tFits_any l.s y (ho.ws y hy) W'
  obtain ⟨E, hE⟩ : ∃ E, firstNZ (o.ws.map (stOne s)) = E := ⟨_, rfl⟩
  have hpostE : ∀ e' w', e' = E → E ≠ 0 → Fr N0 W w' → SPost W R t.p (sStage s o.start o.ws) (N + 1) (.returned (.int .i64 e')) w' := fun e' w' g g0 hf => by
    rw [g]
    have : sStage s o.start o.ws = (s, E) := by unfold sStage; rw [hn, hl]; simp only [hE, if_neg g0]
    rw [this]; exact SPost.same hS hf (Nat.le_succ N)
  have hpost0 : ∀ w5 w6 b' v', E = 0 → Fr N0 W w5 → Wrs w6 b' v' o.ws → (0 < o.ws.length → W.heap.size ≤ b') → MapF Tryz.prog 33 w6 t.mS (N + 1) (putF (viewS s.staged m.sv) (litU o.start) (some v')) → Fr (fun j => j = t.mS) w5 w6 → SPost W R t.p (sStage s o.start o.ws) (N + 1) (.returned (.int .i64 0)) w6 := fun w5 w6 b' v' g0 g1 g2 g3 g4 g5 => by
    have : sStage s o.start o.ws = ({ s with staged := updI s.staged o.start (some o.ws) }, 0) := by unfold sStage; rw [hn, hl]; simp only [hE, if_pos g0]
    rw [this]
    have hfr : Fr (fun j => j = t.mS) W w6 := (g1.mono fun _ h => h.elim).trans g5 fun k e => .inl e
    exact ⟨rfl, _, ⟨t, _, rfl, h.putS hfr g4 g2 g3⟩, fun _ h => h, hfr.mono fun k e => .inl (e ▸ h.inR.2.2.1)⟩
  have hEat : ∀ k (hk : k < o.ws.length), (∀ j (h : j < o.ws.length), j < k → stOne s o.ws[j] = 0) → stOne s o.ws[k] ≠ 0 → E = stOne s o.ws[k] := fun k hk g1 g2 => by
    rw [← hE, firstNZ_at (k := k) (by simpa using hk) (fun j hj hjk => by simpa using g1 j (by simpa using hj) hjk) (by simpa using g2)]
    simp
  have hE0 : (∀ j (h : j < o.ws.length), stOne s o.ws[j] = 0) → E = 0 := fun g => by
    rw [← hE]
    exact firstNZ_none fun y hy => by
      obtain ⟨x, hx, rfl⟩ := List.mem_map.1 hy
      obtain ⟨j, hj, rfl⟩ := List.mem_iff_getElem.1 hx
      exact g j hj
  have hmapS : ∀ w', Fr N0 W w' → MapF Tryz.prog 33 w' t.mS N (viewS s.staged m.sv) := fun w' hf => h.mapS.fr hf id
  have hclone := fun w' (hf : Fr N0 W w') => cloneW_any w' b _ o.ws (hw.fr0 hf) (by omega)
  obtain ⟨PP, hPP⟩ : ∃ A, SPost W R t.p (sStage s o.start o.ws) (N + 1) = A := ⟨_, rfl⟩
  simp only [hPP] at hpostE hpost0 ⊢
  rw [opCells_eq] at hB mb hW0 ⊢
  have hb : BoxO W0 t.p t.mL t.mS t.mF W.heap.size o.kind o.start o.commit V.wa o.ws.length V.wc o.sch.pred o.sch.ty o.sch.list o.sch.exact_ o.sch.term o.sch.order o.sch.rev o.sch.count o.pred o.at_ V.ta o.nt V.tc V.pa o.np V.pc W0 := ⟨m1, mb, l1, lb, Fr.refl _ _⟩
  clear hPP hE hB mb hc m1 n1 l1 nb lb hwm hF hS
  obtain ⟨kd, st, cm, ws, ⟨tp, tt, tl, te, tm, to, tr, tc⟩, pr, at_, nt, np⟩ := o
  obtain ⟨wa, wc, ta, tc', pa, pc⟩ := V
  obtain ⟨p, mL, mS, mF⟩ := t
  simp only at *
  obtain ⟨wa', off, cap, he, w1, w2, w3, w4, w5⟩ := hw
  injection he with e1 e2 e3
  subst e1 e3
  obtain ⟨F, hF⟩ : ∃ F, viewS s.staged m.sv = F := ⟨_, rfl⟩
  rw [hF] at hmapS hpost0
  have HLK := Lib.hid hlk; have HLK2 := Lib.hid hlk2; have HLIST := Lib.hid hlist; have HFIT := Lib.hid hfit; have HPE := Lib.hid hpostE; have HP0 := Lib.hid hpost0; have HEAT := Lib.hid hEat; have HE0 := Lib.hid hE0; have HMS := Lib.hid hmapS; have HCL := Lib.hid hclone; have HC := Lib.hid w5; have HF0 := Lib.hid hf0; have HBX := Lib.hid hb; have HKU := Lib.hid hku
  clear hlk hlk2 hlist hfit hpostE hpost0 hEat hE0 hmapS hclone w5 hf0 hb hku hF w4 h hn hl ho
  have hlk := HLK.out
  go_enter Tryz.func118, Tryz.ntmps118
  go_wp2_with fail
  go_region_held3 (BoxO W0 p mL mS mF W.heap.size kd st cm wa ws.length wc tp tt tl te tm to tr tc pr at_ ta nt tc' pa np pc) (first
    | (with_reducible assumption)
    | (with_reducible exact boxS2_keep (Fr.refl _ _).drew HBX.out)
    | fail) (fail)
  rename_i hHeld
  have HB1 := Lib.hid hHeld
  clear hHeld hlk HLK
  have hlk2 := HLK2.out
  go_wp2_with fail
  go_region_held3 (BoxO W0 p mL mS mF W.heap.size kd st cm wa ws.length wc tp tt tl te tm to tr tc pr at_ ta nt tc' pa np pc) (first
    | (with_reducible assumption)
    | (with_reducible exact boxS2_keep (Fr.refl _ _).drew HB1.out)
    | fail) (fail)
  rename_i hHeld
  have HB2 := Lib.hid hHeld
  obtain ⟨m2, m3, l2, l3, -⟩ := hHeld
  clear hlk2 HLK2
  go_wp2
  clear m2 m3 l2 l3
  go_loopw [44] (fun iv wr => ∃ k : Nat, k ≤ ws.length ∧ iv = .int .i64 k ∧ Hid (∀ j (h : j < ws.length), j < k → stOne s ws[j] = 0) ∧ (BoxO W0 p mL mS mF W.heap.size kd st cm wa ws.length wc tp tt tl te tm to tr tc pr at_ ta nt tc' pa np pc) wr) (fun iv _ => ws.length - (intOf iv).toNat)
  case atStart => exact ⟨0, Nat.zero_le _, rfl, fun j h hj => by omega, HB2.out⟩
  case round =>
    obtain ⟨k, hk, rfl, hz, hbr⟩ := hrel
    by_cases hlt : k < ws.length
    · obtain rfl := w3 (by omega)
      have hfr := HF0.out.then0 hbr.2.2.2.2
      obtain ⟨c0, c1, c2, c3, c4, c5, c6, c7⟩ := wr_cells (W := W) (HC.out k hlt)
      replace c0 := hfr.cell id c0; replace c1 := hfr.cell id c1; replace c2 := hfr.cell id c2; replace c3 := hfr.cell id c3
      replace c4 := hfr.cell id c4; replace c5 := hfr.cell id c5; replace c6 := hfr.cell id c6; replace c7 := hfr.cell id c7
      have hli := HLIST.out ws[k] (List.getElem_mem hlt)
      have hfi := HFIT.out ws[k] (List.getElem_mem hlt)
      have hat := HEAT.out k hlt hz.out
      have hnx : stOne s ws[k] = 0 → ∀ j (h : j < ws.length), j < k + 1 → stOne s ws[j] = 0 := fun he j h hj => by
        rcases Nat.lt_or_ge j k with h' | h'
        · exact hz.out j h h'
        · have : j = k := by omega
          subst this; exact he
      obtain ⟨x, hx⟩ : ∃ x, ws[k] = x := ⟨_, rfl⟩
      simp only [hx] at c0 c1 c2 c3 c4 c5 c6 c7 hli hfi hat hnx
      clear hx
      obtain ⟨xd, xu, xp, vk, vb, vn, vs, vu⟩ := x
      simp only at c0 c1 c2 c3 c4 c5 c6 c7 hli hfi
      have hki : (k : Int) < (ws.length : Int) := by omega
      have HLI := Lib.hid hli; have HFI := Lib.hid hfi; have HAT := Lib.hid hat; have HNX := Lib.hid hnx; have HBR := Lib.hid hbr; have HZ := Lib.hid hz
      clear hli hfi hat hnx hbr hz hfr
      have HB3 : Hid ((Box3 W0 p #[.bool true, .map (some mL), .map (some mS), .map (some mF)] W.heap.size (OpCells kd st cm (some ⟨b, off, none⟩) ws.length wc tp tt tl te tm to tr tc pr at_ ta nt tc' pa np pc) wr.heap.size #[Value.bool xd, Value.int .u64 xu, Value.string xp, Value.int .u8 vk, Value.bool vb, Value.int .i64 vn, Value.string vs, Value.int .u64 vu]) (wr.alloc (.cells #[Value.bool xd, Value.int .u64 xu, Value.string xp, Value.int .u8 vk, Value.bool vb, Value.int .i64 vn, Value.string vs, Value.int .u64 vu] 61))) := Lib.hid (box3_mk HBR.out)
      obtain ⟨W1, hW1⟩ : ∃ W1, wr.alloc (.cells #[Value.bool xd, Value.int .u64 xu, Value.string xp, Value.int .u8 vk, Value.bool vb, Value.int .i64 vn, Value.string vs, Value.int .u64 vu] 61) = W1 := ⟨_, rfl⟩
      rw [hW1] at HB3
      have hfw1 := HF0.out.then0 HB3.out.1.2.2.2.2
      have hlw' := HLI.out W1.drew hfw1.drew
      have HLW := Lib.hid hlw'
      have HFW1 := Lib.hid hfw1
      clear hfw1 HLI HBR hlw'
      go_wp2_with fail
      try rw [hW1]
      clear c0 c1 c2 c3 c4 c5 c6 c7 hW1
      have hlw := HLW.out
      rcases hlw with ⟨hq, hlw⟩ | ⟨l, pl, hq, hlw, hsc⟩
      · have h5 : E = 5 := by
          have e5 : stOne s ⟨xd, xu, xp, ⟨vk, vb, vn, vs, vu⟩⟩ = 5 := by simp [stOne, hq]
          rw [HAT.out (by rw [e5]; decide), e5]
        have H5 := Lib.hid h5
        clear h5 HAT HNX hq
        go_region_held3 (Box3 W0 p #[.bool true, .map (some mL), .map (some mS), .map (some mF)] W.heap.size (OpCells kd st cm (some ⟨b, off, none⟩) ws.length wc tp tt tl te tm to tr tc pr at_ ta nt tc' pa np pc) wr.heap.size #[Value.bool xd, Value.int .u64 xu, Value.string xp, Value.int .u8 vk, Value.bool vb, Value.int .i64 vn, Value.string vs, Value.int .u64 vu]) (first
          | (with_reducible assumption)
          | (with_reducible exact box3_keep (Fr.refl _ _).drew HB3.out)
          | fail) (fail)
        rename_i hHeld
        have HB4 := Lib.hid hHeld
        clear hHeld hlw
        go_wp2
        (try go_ret)
        exact HPE.out _ _ H5.out.symm (by rw [H5.out]; decide) (HF0.out.then0 HB4.out.1.2.2.2.2)
      · have hst : stOne s ⟨xd, xu, xp, ⟨vk, vb, vn, vs, vu⟩⟩ = tFits l.s ⟨xd, xu, xp, ⟨vk, vb, vn, vs, vu⟩⟩ := by simp [stOne, hq]
        have hfi := HFI.out l
        obtain ⟨q, hqq⟩ : ∃ q, tFits l.s ⟨xd, xu, xp, ⟨vk, vb, vn, vs, vu⟩⟩ = q := ⟨_, rfl⟩
        rw [hqq] at hst hfi
        have hat := HAT.out; have hnx := HNX.out
        rw [hst] at hat hnx
        obtain ⟨ls, hls⟩ : ∃ x, l.s = x := ⟨_, rfl⟩
        rw [hls] at hsc hfi
        obtain ⟨sp, sy, sl, se, sm, so, sr, sc⟩ := ls
        simp only [Sch.enc, Wr.enc] at hsc hfi
        have HSC := Lib.hid hsc; have HFT := Lib.hid hfi; have HAT2 := Lib.hid hat; have HNX2 := Lib.hid hnx
        clear hsc hfi hat hnx HFI HAT HNX hls hqq hst hq
        go_region_held3 (Box3 W0 p #[.bool true, .map (some mL), .map (some mS), .map (some mF)] W.heap.size (OpCells kd st cm (some ⟨b, off, none⟩) ws.length wc tp tt tl te tm to tr tc pr at_ ta nt tc' pa np pc) wr.heap.size #[Value.bool xd, Value.int .u64 xu, Value.string xp, Value.int .u8 vk, Value.bool vb, Value.int .i64 vn, Value.string vs, Value.int .u64 vu]) (first
          | (with_reducible assumption)
          | (with_reducible exact box3_keep (Fr.refl _ _).drew HB3.out)
          | fail) (fail)
        rename_i hHeld
        have HB4 := Lib.hid hHeld
        clear hHeld hlw
        by_cases hq0 : q = 0
        · subst hq0
          go_wp2_with fail
          go_region_held3 (Box3 W0 p #[.bool true, .map (some mL), .map (some mS), .map (some mF)] W.heap.size (OpCells kd st cm (some ⟨b, off, none⟩) ws.length wc tp tt tl te tm to tr tc pr at_ ta nt tc' pa np pc) wr.heap.size #[Value.bool xd, Value.int .u64 xu, Value.string xp, Value.int .u8 vk, Value.bool vb, Value.int .i64 vn, Value.string vs, Value.int .u64 vu]) (first
            | (with_reducible assumption)
            | (with_reducible exact box3_keep (Fr.refl _ _).drew HB4.out)
            | (with_reducible exact box3_keep hfw3 HB4.out)
            | (with_reducible exact box3_keep hfw2 HB4.out)
            | fail) (first
            | (go_simp; go_at_call 81; refine (HSC.out _ (HF0.out.then0 HB4.out.1.2.2.2.2).drew).mono ?_; rintro e w2 ⟨rfl, hff⟩; have hfw2 : Fr N0 W1.drew w2 := (Fr.refl N0 _).drew.then0 hff)
            | (go_simp; go_at_call 145; refine (HFT.out _).mono ?_; rintro e w3 ⟨rfl, hfg⟩; have hfw3 : Fr N0 W1.drew w3 := hfw2.then0 hfg)
            | fail)
          rename_i hHeld
          have HB5 := Lib.hid hHeld
          clear hHeld
          go_wp2
          go_roundw
          case rel => exact ⟨k + 1, by omega, by go_num, HNX2.out (by trivial), HB5.out.1⟩
          case measure => simp [intOf]; omega
        · have hEq := HAT2.out hq0
          have HEq := Lib.hid hEq
          clear hEq
          go_wp2_with fail
          go_region_held3 (Box3 W0 p #[.bool true, .map (some mL), .map (some mS), .map (some mF)] W.heap.size (OpCells kd st cm (some ⟨b, off, none⟩) ws.length wc tp tt tl te tm to tr tc pr at_ ta nt tc' pa np pc) wr.heap.size #[Value.bool xd, Value.int .u64 xu, Value.string xp, Value.int .u8 vk, Value.bool vb, Value.int .i64 vn, Value.string vs, Value.int .u64 vu]) (first
            | (with_reducible assumption)
            | (with_reducible exact box3_keep (Fr.refl _ _).drew HB4.out)
            | (with_reducible exact box3_keep hfw3 HB4.out)
            | (with_reducible exact box3_keep hfw2 HB4.out)
            | fail) (first
            | (go_simp; go_at_call 81; refine (HSC.out _ (HF0.out.then0 HB4.out.1.2.2.2.2).drew).mono ?_; rintro e w2 ⟨rfl, hff⟩; have hfw2 : Fr N0 W1.drew w2 := (Fr.refl N0 _).drew.then0 hff)
            | (go_simp; go_at_call 145; refine (HFT.out _).mono ?_; rintro e w3 ⟨rfl, hfg⟩; have hfw3 : Fr N0 W1.drew w3 := hfw2.then0 hfg)
            | fail)
          rename_i hHeld
          have HB5 := Lib.hid hHeld
          clear hHeld
          go_wp2
          (try go_ret)
          exact HPE.out _ _ HEq.out.symm (by rw [HEq.out]; exact hq0) (HF0.out.then0 HB5.out.1.2.2.2.2)
    · obtain rfl : k = ws.length := by omega
      have hE := HE0.out fun j h => hz.out j h h
      have HE := Lib.hid hE
      have HBR := Lib.hid hbr
      obtain ⟨m2, m3, l2, l3, hf4⟩ := hbr
      have hfw := HF0.out.then0 hf4
      have hcl := HCL.out wr.drew hfw.drew
      have HCC := Lib.hid hcl
      have HFW := Lib.hid hfw
      clear hE hz hf4 hfw hcl
      go_wp2_with fail
      refine wp_plainQ ?_
      go_region_law (first
        | (go_simp; go_at_call 64; refine HCC.out.mono ?_; rintro e w5 ⟨v', rfl, hr, -, hfc⟩; obtain ⟨ra, rc, rfl⟩ := slice_of_row hr; obtain ⟨m5, m6, l5, l6, -⟩ := boxS2_keep ((Fr.refl N0 wr).drew.then0 hfc) HBR.out; obtain ⟨w6, hrun, hm6, hf6⟩ := (HMS.out w5 (HFW.out.drew.then0 hfc)).store lawU Tryz.underlying120 (by unfold maxLen; omega) HKU.out (.slice ra ws.length rc))
        | fail)
      all_goals
        have hlt5 := ownsRow_lt hr
        have hzw := HFW.out.size
        have hrz : wr.drew.heap.size = wr.heap.size := rfl
        obtain ⟨bb, -, hbk⟩ := rowsK_of_row (enc := Wr.enc) (n := 8) (fun _ => rfl) (by decide) hr
        have hbb : 0 < ws.length → W.heap.size ≤ bb := fun hpos => by
          obtain ⟨a, off', cap', he', -, -, g3, -⟩ := hbk
          have ho : (Value.slice ra ws.length rc).ownBlock = some bb := by rw [he', g3 hpos]; rfl
          have := (hlt5 bb ho).1
          omega
        have hw6 : Wrs w6 bb (.slice ra ws.length rc) ws := rowsK_frT (enc := Wr.enc) (n := 8) (fun _ => rfl) hbk hf6 fun hpos e => by
          have h1 := (HMS.out W (Fr.refl _ _)).lt
          have h2 := hbb hpos
          omega
        have HM6 := Lib.hid hm6; have HF6 := Lib.hid hf6; have HW6 := Lib.hid hw6; have HBB := Lib.hid hbb; have HFC := Lib.hid (HFW.out.drew.then0 hfc)
        clear hm6 hf6 hw6 hbb hbk hlt5 hr hfc hrun
        go_wp2
        (try go_ret)
        exact HP0.out w5 w6 bb _ HE.out HFC.out HW6.out HBB.out HM6.out HF6.out
open Classical in
theorem stage_any (W : World) (R : Nat → Prop) (p : Nat) (s : SS) (N : Nat) (h : IsState W R p s N) (hF : s.Fine N) (hN : N ≤ 100000) (o : Op) (ho : o.wf) (V : OpS) (b : Nat) (hw : Wrs W b (.slice V.wa o.ws.length V.wc) o.ws) (hwl : o.ws.length ≤ 256) (hwm : ∀ y ∈ o.ws, trMay y = 0) :
    Calls Tryz.prog 118 #[.pointer (some ⟨p, 0, none⟩), .agg (opEnc o V).toArray] W (SPost W R p (sStage s o.start o.ws) (N + 1)) := by
  cases hn : s.finals o.start with
  | some c =>
    have := stageFin W R p s N h o ho V c hn
    rw [show sStage s o.start o.ws = (s, 210) by unfold sStage; rw [hn]]
    exact this
  | none =>
    cases hl : s.staged o.start with
    | some w =>
      have := stageHad W R p s N h o ho V b hw hn w hl (hF.staged _ _ hl).2.1 _ rfl
      have e : ∀ E, (E = if w = o.ws then 0 else 211) → sStage s o.start o.ws = (s, E) := fun E hE => by unfold sStage; rw [hn, hl, hE]
      rw [e _ rfl]
      exact this
    | none => exact stageNew W R p s N h hF hN o ho V b hw hn hl hwl hwm
end Go.Proofs.YtefepfiijoafbaaGreat
