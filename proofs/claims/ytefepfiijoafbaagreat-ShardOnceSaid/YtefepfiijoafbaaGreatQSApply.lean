/- Apply: does a command (of the first three kinds). -/
import Derived.Test.YtefepfiijoafbaaGreatQSFinF
import Derived.Test.YtefepfiijoafbaaGreatQSApRH
import Derived.Test.YtefepfiijoafbaaGreatQSApRS
import Derived.Test.YtefepfiijoafbaaGreatQSApRF
namespace Go.Proofs.YtefepfiijoafbaaGreat
open Go.RowKit Go.Shelf Go.Maps
attribute [local go_sem] Oper.semAt_some
attribute [local irreducible] wpQuiet
set_option linter.unusedVariables false
set_option linter.unusedSimpArgs false

set_option maxRecDepth 100000 in
set_option maxHeartbeats 4000000 in
theorem apply_no (W : World) (R : Nat → Prop) (p : Nat) (s : SS) (N : Nat) (h : IsState W R p s N) (o : Op) (ho : o.wf) (V : OpS) (b : Nat) (hw : Wrs W b (.slice V.wa o.ws.length V.wc) o.ws) (hk : o.kind ≠ 4 ∧ o.kind ≠ 5 ∧ o.kind ≠ 6) (hok : ¬ o.ok) :
    Calls Tryz.prog 13 #[.pointer (some ⟨p, 0, none⟩), .agg (opEnc o V).toArray] W (SPost W R p (s, 200) (N + 1)) := by
  have hS := h
  obtain ⟨t, m, rfl, h⟩ := h
  have hc0 := (box_cells h.cells).1 0
  have hn := fun W' (hf : Fr N0 W W') => sNone_any W' t.p (hf.cell id hc0)
  have hm := fun W' (hf : Fr N0 W W') => sMay_any W' o ho V b (hw.fr0 hf) hk 200 (fun h => absurd h hok) (fun _ => rfl)
  have hpost : ∀ w', Fr N0 W w' → SPost W R t.p (s, 200) (N + 1) (.returned (.int .i64 200)) w' := fun w' hf => SPost.same hS hf (Nat.le_succ N)
  obtain ⟨PP, hPP⟩ : ∃ A, SPost W R t.p (s, 200) (N + 1) = A := ⟨_, rfl⟩
  rw [hPP] at hpost ⊢
  have HN := Lib.hid hn; have HM := Lib.hid hm; have HPOST := Lib.hid hpost
  obtain ⟨W0, hW0⟩ : ∃ W0, W.alloc (.cells (opEnc o V).toArray 38) = W0 := ⟨_, rfl⟩
  have hf0 : Fr N0 W W0 := by rw [← hW0]; exact (Fr.refl _ _).alloc _
  have hB : W0.heap[W.heap.size]? = some (.cells (opEnc o V).toArray 38 (0, 0)) := by rw [← hW0]; exact World.alloc_heap_new W _
  have HF0 := Lib.hid hf0; have HB := Lib.hid hB
  rw [opCells_eq] at hW0 hB ⊢
  clear hn hm hpost hPP h hS hc0 hf0
  have lb := lt_of_block hB
  have HBB := Lib.hid hB
  clear hB HB
  go_enter Tryz.func13, Tryz.ntmps13
  go_wp2_with fail
  try rw [hW0]
  refine (HN.out W0 HF0.out).mono ?_
  rintro e w1 ⟨rfl, hf1⟩
  have hb1 := (hf1.at (k := W.heap.size) id lb).trans HBB.out
  obtain ⟨mb, nb, lb1⟩ := box_cells hb1
  have HF1 := Lib.hid (HF0.out.then0 hf1)
  clear hf1 hb1
  go_wp2_with fail
  refine (HM.out w1 HF1.out).mono ?_
  rintro e w2 ⟨rfl, hf2⟩
  go_wp2
  (try go_ret)
  exact HPOST.out _ (HF1.out.then0 hf2)

set_option maxRecDepth 100000 in
set_option maxHeartbeats 4000000 in
theorem apply_hold (W : World) (R : Nat → Prop) (p : Nat) (s : SS) (N : Nat) (h : IsState W R p s N) (hR : ∀ k, R k → k < W.heap.size) (o : Op) (ho : o.wf) (V : OpS) (b : Nat) (hw : Wrs W b (.slice V.wa o.ws.length V.wc) o.ws) (hk : o.kind ≠ 4 ∧ o.kind ≠ 5 ∧ o.kind ≠ 6) (hok : o.ok) (h1 : o.kind = 1) (r : SS × Int)
    (hcall : ∀ W', Fr N0 W W' → Calls Tryz.prog 117 #[.pointer (some ⟨p, 0, none⟩), .agg (opEnc o V).toArray] W' (SPost W' R p r (N + 1))) :
    Calls Tryz.prog 13 #[.pointer (some ⟨p, 0, none⟩), .agg (opEnc o V).toArray] W (SPost W R p r (N + 1)) := by
  obtain ⟨t, m, rfl, h⟩ := h
  have hc0 := (box_cells h.cells).1 0
  have hn := fun W' (hf : Fr N0 W W') => sNone_any W' t.p (hf.cell id hc0)
  have hm := fun W' (hf : Fr N0 W W') => sMay_any W' o ho V b (hw.fr0 hf) hk 0 (fun _ => rfl) (fun h => absurd hok h)
  have hpost : ∀ W' e w', Fr N0 W W' → SPost W' R t.p r (N + 1) e w' → SPost W R t.p r (N + 1) e w' := fun W' e w' hf hp => hp.from hf
  have hcall2 : ∀ W', Fr N0 W W' → Calls Tryz.prog 117 #[.pointer (some ⟨t.p, 0, none⟩), .agg (opEnc o V).toArray] W' fun e w' => e = .returned (.int .i64 r.2) ∧ SPost W R t.p r (N + 1) (.returned (.int .i64 r.2)) w' ∧ Fr R W' w' := fun W' hf => (hcall W' hf).mono fun e w' hp => by
    have he := hp.1
    subst he
    exact ⟨rfl, hpost W' _ w' hf hp, hp.frame⟩
  obtain ⟨PP, hPP⟩ : ∃ A, SPost W R t.p r (N + 1) = A := ⟨_, rfl⟩
  rw [hPP] at hcall2 ⊢
  obtain ⟨E, hE⟩ : ∃ E, r.2 = E := ⟨_, rfl⟩
  rw [hE] at hcall2
  have hBR : ¬ R W.heap.size := fun hh => by have := hR _ hh; omega
  have HN := Lib.hid hn; have HM := Lib.hid hm; have HBR := Lib.hid hBR
  obtain ⟨W0, hW0⟩ : ∃ W0, W.alloc (.cells (opEnc o V).toArray 38) = W0 := ⟨_, rfl⟩
  have hf0 : Fr N0 W W0 := by rw [← hW0]; exact (Fr.refl _ _).alloc _
  have hB : W0.heap[W.heap.size]? = some (.cells (opEnc o V).toArray 38 (0, 0)) := by rw [← hW0]; exact World.alloc_heap_new W _
  have HF0 := Lib.hid hf0
  rw [opCells_eq] at hW0 hB hcall2 HM ⊢
  have HC := Lib.hid hcall2
  clear hn hm hpost hPP h hc0 hf0 hcall hcall2 hR hBR hE hw hk hok ho
  have lb := lt_of_block hB
  have HBB := Lib.hid hB
  clear hB
  obtain ⟨kd, st, cm, ws, ⟨tp, tt, tl, te, tm, to, tr, tc⟩, pr, at_, nt, np⟩ := o
  obtain ⟨wa, wc, ta, tc', pa, pc⟩ := V
  simp only at h1
  subst h1
  obtain ⟨nw, hnw⟩ : ∃ n, ws.length = n := ⟨_, rfl⟩
  simp only [hnw] at *
  clear hnw
  go_enter Tryz.func13, Tryz.ntmps13
  go_wp2_with fail
  try rw [hW0]
  refine (HN.out W0 HF0.out).mono ?_
  rintro e w1 ⟨rfl, hf1⟩
  have hb1 := (hf1.at (k := W.heap.size) id lb).trans HBB.out
  obtain ⟨mb, nb, lb1⟩ := box_cells hb1
  have HB1 := Lib.hid hb1
  have HF1 := Lib.hid (HF0.out.then0 hf1)
  clear hf1 hb1
  go_wp2_with fail
  refine (HM.out w1 HF1.out).mono ?_
  rintro e w2 ⟨rfl, hf2⟩
  have hb2 := (hf2.at (k := W.heap.size) id lb1).trans HB1.out
  have HB2 : Hid (BoxB W.heap.size (OpCells 1 st cm wa nw wc tp tt tl te tm to tr tc pr at_ ta nt tc' pa np pc) w2) := ⟨(box_cells hb2).1, (box_cells hb2).2.2⟩
  have HF2 := Lib.hid (HF1.out.then0 hf2)
  clear hf2 hb2
  go_wp2_with fail
  rename_i Kx hKx
  refine wp_frA _ rfl ?_
  refine apR6_hold (K := Kx) w2 _ R t.p W.heap.size E (fun w' => PP (.returned (.int .i64 E)) w') st cm wa nw wc tp tt tl te tm to tr tc pr at_ ta nt tc' pa np pc rfl rfl HB2.out (fun W' hf => (HC.out W' (HF2.out.then0 hf)).mono fun e w' h => ⟨h.1, h.2.1, boxB_keep h.2.2 HBR.out (boxB_keep hf id HB2.out)⟩) fun f' W' e4 hp => ?_
  refine hKx _ _ ?_
  refine wp_ret ?_
  exact bodyPost_ret (v := .int .i64 E) (by simp [results, frA, Tryz.results13, go_sem, e4]) rfl hp
set_option maxRecDepth 100000 in
set_option maxHeartbeats 4000000 in
theorem apply_stage (W : World) (R : Nat → Prop) (p : Nat) (s : SS) (N : Nat) (h : IsState W R p s N) (hR : ∀ k, R k → k < W.heap.size) (o : Op) (ho : o.wf) (V : OpS) (b : Nat) (hw : Wrs W b (.slice V.wa o.ws.length V.wc) o.ws) (hk : o.kind ≠ 4 ∧ o.kind ≠ 5 ∧ o.kind ≠ 6) (hok : o.ok) (h1 : o.kind = 2) (r : SS × Int)
    (hcall : ∀ W', Fr N0 W W' → Calls Tryz.prog 118 #[.pointer (some ⟨p, 0, none⟩), .agg (opEnc o V).toArray] W' (SPost W' R p r (N + 1))) :
    Calls Tryz.prog 13 #[.pointer (some ⟨p, 0, none⟩), .agg (opEnc o V).toArray] W (SPost W R p r (N + 1)) := by
  obtain ⟨t, m, rfl, h⟩ := h
  have hc0 := (box_cells h.cells).1 0
  have hn := fun W' (hf : Fr N0 W W') => sNone_any W' t.p (hf.cell id hc0)
  have hm := fun W' (hf : Fr N0 W W') => sMay_any W' o ho V b (hw.fr0 hf) hk 0 (fun _ => rfl) (fun h => absurd hok h)
  have hpost : ∀ W' e w', Fr N0 W W' → SPost W' R t.p r (N + 1) e w' → SPost W R t.p r (N + 1) e w' := fun W' e w' hf hp => hp.from hf
  have hcall2 : ∀ W', Fr N0 W W' → Calls Tryz.prog 118 #[.pointer (some ⟨t.p, 0, none⟩), .agg (opEnc o V).toArray] W' fun e w' => e = .returned (.int .i64 r.2) ∧ SPost W R t.p r (N + 1) (.returned (.int .i64 r.2)) w' ∧ Fr R W' w' := fun W' hf => (hcall W' hf).mono fun e w' hp => by
    have he := hp.1
    subst he
    exact ⟨rfl, hpost W' _ w' hf hp, hp.frame⟩
  obtain ⟨PP, hPP⟩ : ∃ A, SPost W R t.p r (N + 1) = A := ⟨_, rfl⟩
  rw [hPP] at hcall2 ⊢
  obtain ⟨E, hE⟩ : ∃ E, r.2 = E := ⟨_, rfl⟩
  rw [hE] at hcall2
  have hBR : ¬ R W.heap.size := fun hh => by have := hR _ hh; omega
  have HN := Lib.hid hn; have HM := Lib.hid hm; have HBR := Lib.hid hBR
  obtain ⟨W0, hW0⟩ : ∃ W0, W.alloc (.cells (opEnc o V).toArray 38) = W0 := ⟨_, rfl⟩
  have hf0 : Fr N0 W W0 := by rw [← hW0]; exact (Fr.refl _ _).alloc _
  have hB : W0.heap[W.heap.size]? = some (.cells (opEnc o V).toArray 38 (0, 0)) := by rw [← hW0]; exact World.alloc_heap_new W _
  have HF0 := Lib.hid hf0
  rw [opCells_eq] at hW0 hB hcall2 HM ⊢
  have HC := Lib.hid hcall2
  clear hn hm hpost hPP h hc0 hf0 hcall hcall2 hR hBR hE hw hk hok ho
  have lb := lt_of_block hB
  have HBB := Lib.hid hB
  clear hB
  obtain ⟨kd, st, cm, ws, ⟨tp, tt, tl, te, tm, to, tr, tc⟩, pr, at_, nt, np⟩ := o
  obtain ⟨wa, wc, ta, tc', pa, pc⟩ := V
  simp only at h1
  subst h1
  obtain ⟨nw, hnw⟩ : ∃ n, ws.length = n := ⟨_, rfl⟩
  simp only [hnw] at *
  clear hnw
  go_enter Tryz.func13, Tryz.ntmps13
  go_wp2_with fail
  try rw [hW0]
  refine (HN.out W0 HF0.out).mono ?_
  rintro e w1 ⟨rfl, hf1⟩
  have hb1 := (hf1.at (k := W.heap.size) id lb).trans HBB.out
  obtain ⟨mb, nb, lb1⟩ := box_cells hb1
  have HB1 := Lib.hid hb1
  have HF1 := Lib.hid (HF0.out.then0 hf1)
  clear hf1 hb1
  go_wp2_with fail
  refine (HM.out w1 HF1.out).mono ?_
  rintro e w2 ⟨rfl, hf2⟩
  have hb2 := (hf2.at (k := W.heap.size) id lb1).trans HB1.out
  have HB2 : Hid (BoxB W.heap.size (OpCells 2 st cm wa nw wc tp tt tl te tm to tr tc pr at_ ta nt tc' pa np pc) w2) := ⟨(box_cells hb2).1, (box_cells hb2).2.2⟩
  have HF2 := Lib.hid (HF1.out.then0 hf2)
  clear hf2 hb2
  go_wp2_with fail
  rename_i Kx hKx
  refine wp_frA _ rfl ?_
  refine apR6_stage (K := Kx) w2 _ R t.p W.heap.size E (fun w' => PP (.returned (.int .i64 E)) w') st cm wa nw wc tp tt tl te tm to tr tc pr at_ ta nt tc' pa np pc rfl rfl HB2.out (fun W' hf => (HC.out W' (HF2.out.then0 hf)).mono fun e w' h => ⟨h.1, h.2.1, boxB_keep h.2.2 HBR.out (boxB_keep hf id HB2.out)⟩) fun f' W' e4 hp => ?_
  refine hKx _ _ ?_
  refine wp_ret ?_
  exact bodyPost_ret (v := .int .i64 E) (by simp [results, frA, Tryz.results13, go_sem, e4]) rfl hp
set_option maxRecDepth 100000 in
set_option maxHeartbeats 4000000 in
theorem apply_final (W : World) (R : Nat → Prop) (p : Nat) (s : SS) (N : Nat) (h : IsState W R p s N) (hR : ∀ k, R k → k < W.heap.size) (o : Op) (ho : o.wf) (V : OpS) (b : Nat) (hw : Wrs W b (.slice V.wa o.ws.length V.wc) o.ws) (hk : o.kind ≠ 4 ∧ o.kind ≠ 5 ∧ o.kind ≠ 6) (hok : o.ok) (h1 : o.kind = 3) (r : SS × Int)
    (hcall : ∀ W', Fr N0 W W' → Calls Tryz.prog 119 #[.pointer (some ⟨p, 0, none⟩), .agg (opEnc o V).toArray] W' (SPost W' R p r (N + 1))) :
    Calls Tryz.prog 13 #[.pointer (some ⟨p, 0, none⟩), .agg (opEnc o V).toArray] W (SPost W R p r (N + 1)) := by
  obtain ⟨t, m, rfl, h⟩ := h
  have hc0 := (box_cells h.cells).1 0
  have hn := fun W' (hf : Fr N0 W W') => sNone_any W' t.p (hf.cell id hc0)
  have hm := fun W' (hf : Fr N0 W W') => sMay_any W' o ho V b (hw.fr0 hf) hk 0 (fun _ => rfl) (fun h => absurd hok h)
  have hpost : ∀ W' e w', Fr N0 W W' → SPost W' R t.p r (N + 1) e w' → SPost W R t.p r (N + 1) e w' := fun W' e w' hf hp => hp.from hf
  have hcall2 : ∀ W', Fr N0 W W' → Calls Tryz.prog 119 #[.pointer (some ⟨t.p, 0, none⟩), .agg (opEnc o V).toArray] W' fun e w' => e = .returned (.int .i64 r.2) ∧ SPost W R t.p r (N + 1) (.returned (.int .i64 r.2)) w' ∧ Fr R W' w' := fun W' hf => (hcall W' hf).mono fun e w' hp => by
    have he := hp.1
    subst he
    exact ⟨rfl, hpost W' _ w' hf hp, hp.frame⟩
  obtain ⟨PP, hPP⟩ : ∃ A, SPost W R t.p r (N + 1) = A := ⟨_, rfl⟩
  rw [hPP] at hcall2 ⊢
  obtain ⟨E, hE⟩ : ∃ E, r.2 = E := ⟨_, rfl⟩
  rw [hE] at hcall2
  have hBR : ¬ R W.heap.size := fun hh => by have := hR _ hh; omega
  have HN := Lib.hid hn; have HM := Lib.hid hm; have HBR := Lib.hid hBR
  obtain ⟨W0, hW0⟩ : ∃ W0, W.alloc (.cells (opEnc o V).toArray 38) = W0 := ⟨_, rfl⟩
  have hf0 : Fr N0 W W0 := by rw [← hW0]; exact (Fr.refl _ _).alloc _
  have hB : W0.heap[W.heap.size]? = some (.cells (opEnc o V).toArray 38 (0, 0)) := by rw [← hW0]; exact World.alloc_heap_new W _
  have HF0 := Lib.hid hf0
  rw [opCells_eq] at hW0 hB hcall2 HM ⊢
  have HC := Lib.hid hcall2
  clear hn hm hpost hPP h hc0 hf0 hcall hcall2 hR hBR hE hw hk hok ho
  have lb := lt_of_block hB
  have HBB := Lib.hid hB
  clear hB
  obtain ⟨kd, st, cm, ws, ⟨tp, tt, tl, te, tm, to, tr, tc⟩, pr, at_, nt, np⟩ := o
  obtain ⟨wa, wc, ta, tc', pa, pc⟩ := V
  simp only at h1
  subst h1
  obtain ⟨nw, hnw⟩ : ∃ n, ws.length = n := ⟨_, rfl⟩
  simp only [hnw] at *
  clear hnw
  go_enter Tryz.func13, Tryz.ntmps13
  go_wp2_with fail
  try rw [hW0]
  refine (HN.out W0 HF0.out).mono ?_
  rintro e w1 ⟨rfl, hf1⟩
  have hb1 := (hf1.at (k := W.heap.size) id lb).trans HBB.out
  obtain ⟨mb, nb, lb1⟩ := box_cells hb1
  have HB1 := Lib.hid hb1
  have HF1 := Lib.hid (HF0.out.then0 hf1)
  clear hf1 hb1
  go_wp2_with fail
  refine (HM.out w1 HF1.out).mono ?_
  rintro e w2 ⟨rfl, hf2⟩
  have hb2 := (hf2.at (k := W.heap.size) id lb1).trans HB1.out
  have HB2 : Hid (BoxB W.heap.size (OpCells 3 st cm wa nw wc tp tt tl te tm to tr tc pr at_ ta nt tc' pa np pc) w2) := ⟨(box_cells hb2).1, (box_cells hb2).2.2⟩
  have HF2 := Lib.hid (HF1.out.then0 hf2)
  clear hf2 hb2
  go_wp2_with fail
  rename_i Kx hKx
  refine wp_frA _ rfl ?_
  refine apR6_final (K := Kx) w2 _ R t.p W.heap.size E (fun w' => PP (.returned (.int .i64 E)) w') st cm wa nw wc tp tt tl te tm to tr tc pr at_ ta nt tc' pa np pc rfl rfl HB2.out (fun W' hf => (HC.out W' (HF2.out.then0 hf)).mono fun e w' h => ⟨h.1, h.2.1, boxB_keep h.2.2 HBR.out (boxB_keep hf id HB2.out)⟩) fun f' W' e4 hp => ?_
  refine hKx _ _ ?_
  refine wp_ret ?_
  exact bodyPost_ret (v := .int .i64 E) (by simp [results, frA, Tryz.results13, go_sem, e4]) rfl hp
theorem sApply_any (W : World) (R : Nat → Prop) (p : Nat) (s : SS) (N : Nat) (h : IsState W R p s N) (hF : s.Fine N) (hN : N ≤ 100000) (o : Op) (ho : o.wf) (V : OpS) (b : Nat) (hw : Wrs W b (.slice V.wa o.ws.length V.wc) o.ws) (hk : o.kind ≠ 4 ∧ o.kind ≠ 5 ∧ o.kind ≠ 6) :
    Calls Tryz.prog 13 #[.pointer (some ⟨p, 0, none⟩), .agg (opEnc o V).toArray] W (SPost W R p (sApply s o) (N + 1)) := by
  by_cases hok : o.ok
  · rcases hok.2.2.2.2 with h1 | h2 | h3
    · have e : sApply s o = sHold s o.sch := by unfold sApply; rw [if_neg (fun h => h hok), if_pos h1.1]
      rw [e]
      exact (apply_hold W _ p s N h.bound (fun k hk => hk.2) o ho V b hw hk hok h1.1 _ fun W' hf => hold_any W' _ p s N (h.bound.fr hf fun _ _ => id) hF hN o V h1.2.1).mono fun _ _ h => h.unbound
    · have e : sApply s o = sStage s o.start o.ws := by unfold sApply; rw [if_neg (fun h => h hok), if_neg (by omega), if_pos h2.1]
      rw [e]
      exact (apply_stage W _ p s N h.bound (fun k hk => hk.2) o ho V b hw hk hok h2.1 _ fun W' hf => stage_any W' _ p s N (h.bound.fr hf fun _ _ => id) hF hN o ho V b (hw.fr0 hf) h2.2.2.2.1 h2.2.2.2.2.1).mono fun _ _ h => h.unbound
    · have e : sApply s o = sFin predsOf s o.start o.commit := by unfold sApply; rw [if_neg (fun h => h hok), if_neg (by omega), if_neg (by omega)]
      rw [e]
      exact (apply_final W _ p s N h.bound (fun k hk => hk.2) o ho V b hw hk hok h3.1 _ fun W' hf => final_any W' _ p s N (h.bound.fr hf fun _ _ => id) hF hN o ho V).mono fun _ _ h => h.unbound
  · have e : sApply s o = (s, 200) := by unfold sApply; rw [if_pos hok]
    rw [e]
    exact apply_no W R p s N h o ho V b hw hk hok
end Go.Proofs.YtefepfiijoafbaaGreat
