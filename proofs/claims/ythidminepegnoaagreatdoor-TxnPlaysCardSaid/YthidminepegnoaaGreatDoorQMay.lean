/- Whether a transaction's routes are its predicates': the program's routed, the document's routes. Which transactions may be: the program's May, the document's. -/
import Derived.Test.YthidminepegnoaaGreatDoorQWrites
import Derived.Test.YthidminepegnoaaGreatDoorQRGroups
namespace Go.Proofs.YthidminepegnoaaGreatDoor
open Go.RowKit Go.Shelf Go.Maps Go.Sort
attribute [local go_sem] Oper.semAt_some
attribute [local irreducible] wpQuiet
set_option linter.unusedVariables false
set_option linter.unusedSimpArgs false

set_option maxRecDepth 100000 in
set_option maxHeartbeats 4000000 in
theorem xrouted_any (w : World) (v : Value) (t : Txn) (h : IsTxn w v t) (hv : Inv t) (hr : RoutesOk t) : Calls Tryz.prog 43 #[v] w fun e w' => e = .returned (.bool true) ∧ Fr N0 w w' := by
  have hfew := hv.few
  obtain ⟨vw, vk, vn, vg, vl, rfl, h⟩ := h
  obtain ⟨bw, hw⟩ := h.ws
  obtain ⟨bn, hn⟩ := h.ns
  obtain ⟨bg, hg⟩ := h.gs
  have hlen : t.needs.length = (predsOf t.writes).length := by rw [← hr.same, List.length_map]
  have hpl : ∀ x ∈ t.writes, x.pred.size ≤ maxLen := fun x hx => by have := predOk_size (trMay_zero (hv.may x hx)).1; unfold maxLen; omega
  have hnl : t.needs.length ≤ 1000000 := by have := hr.few; omega
  have hps := fun W (hf : Fr N0 w W) => preds_any W bw vw t.writes (hw.fr0 hf) (by omega) hpl
  have hsame := hr.same
  rw [← show predsOf t.writes = normS (t.writes.map (·.pred)) from rfl, ← hsame] at hps
  have hgs := fun W (hf : Fr N0 w W) => xgroups_any W bn vn t.needs (hn.fr0 hf) hnl (fun r hr => (hv.rts r hr).1)
  have heq := fun W b' v' (hf : Fr N0 w W) (h2 : Ints .u32 W b' v' (groupsOf t.needs)) => eq3_any W bg b' vg v' (groupsOf t.needs) (by rw [← hr.groups]; exact hg.fr0 hf) h2 (by have := normI_length (t.needs.map (·.group)); rw [List.length_map] at this; unfold groupsOf; omega)
  have hgood := hr.good
  have hpos := hr.some_
  obtain ⟨ph, st, cm, ws, ks, ns, gs, ls, fl⟩ := t
  simp only at hps hgs heq hgood hpos hnl hn hw hfew ⊢
  obtain ⟨a, off, cap, rfl, h1, h2, h3, -, h5⟩ := hn
  obtain rfl := h3 hpos
  have HPS := Lib.hid hps; have HGS := Lib.hid hgs; have HEQ := Lib.hid heq; have HG := Lib.hid hgood; have HC := Lib.hid h5
  have hp0 : (0 : Int) < (ns.length : Int) := by omega
  have hn0 : ((ns.length : Int) == 0) = false := beq_eq_false_iff_ne.2 (by omega)
  have hn1 : ((ns.length : Int) != (ns.length : Int)) = false := by simp
  have hn2 : ns.length ≠ 0 := by omega
  clear hps hgs heq hgood h hv hw hg hpl hsame hlen hr h3 h5
  go_enter Tryz.func43, Tryz.ntmps43
  go_wp2_with (go_at_call 66; go_loud (refine (HPS.out _ ((Fr.refl _ _).alloc _)).mono ?_); rintro e w1 ⟨vp, bp, rfl, hst, hf1⟩; have hB1 := boxS_keep hf1 (boxS_new w _ _); have m1 := hB1.1; have HB := Lib.hid hB1; obtain ⟨ap, offp, capp, rfl, p1, p2, p3, -, p5⟩ := hst; simp only [List.length_map] at p1 p3 p5 ⊢; obtain rfl := p3 hpos; have HP := Lib.hid p5; clear hB1 hf1 p3 p5)
  go_loopw [23] (fun i wr => ∃ k : Nat, k ≤ ns.length ∧ i = .int .i64 k ∧ BoxS w w.heap.size #[.int .u8 ph, .int .u64 st, .int .u64 cm, vw, vk, .slice (some ⟨bn, off, none⟩) ns.length cap, vg, vl, .bool fl] wr ∧ Fr N0 w1 wr) (fun i _ => ns.length - (intOf i).toNat)
  case atStart => exact ⟨0, Nat.zero_le _, rfl, HB.out, Fr.refl _ _⟩
  case round =>
    obtain ⟨k, hk, rfl, hB, hfr1⟩ := hrel
    have hfr := hB.2.2
    have m2 := hB.1
    by_cases hlt : k < ns.length
    · obtain ⟨c0, c1, c2⟩ := rt_cells (W := w) (HC.out k hlt)
      replace c0 := hfr.cell id c0; replace c1 := hfr.cell id c1; replace c2 := hfr.cell id c2
      have cp := hfr1.cell id (HP.out k (by simpa using hlt))
      rw [List.getElem_map] at cp
      obtain ⟨hg1, hg2⟩ := HG.out ns[k] (List.getElem_mem hlt)
      obtain ⟨x, hx⟩ : ∃ x, ns[k] = x := ⟨_, rfl⟩
      simp only [hx] at c0 c1 c2 cp hg1 hg2
      obtain ⟨xp, xg, xt⟩ := x
      simp only at c0 c1 c2 cp hg1 hg2
      have hki : (k : Int) < (ns.length : Int) := by omega
      have hb1 : (xp.toList != xp.toList) = false := by simp
      have hb2 : (xg == 0) = false := beq_eq_false_iff_ne.2 hg1
      have hb3 : (xt == 0) = false := beq_eq_false_iff_ne.2 hg2
      have HB2 := Lib.hid hB; have HF1 := Lib.hid hfr1
      have hB3 := boxS_new wr #[.string xp, .int .u32 xg, .int .u64 xt] 92
      have d0 : (wr.alloc (.cells #[.string xp, .int .u32 xg, .int .u64 xt] 92)).cell? ⟨wr.heap.size, 0, none⟩ = some (.string xp) := hB3.1 0
      have d1 : (wr.alloc (.cells #[.string xp, .int .u32 xg, .int .u64 xt] 92)).cell? ⟨wr.heap.size, 1, none⟩ = some (.int .u32 xg) := hB3.1 1
      have d2 : (wr.alloc (.cells #[.string xp, .int .u32 xg, .int .u64 xt] 92)).cell? ⟨wr.heap.size, 2, none⟩ = some (.int .u64 xt) := hB3.1 2
      have d3 := hB3.2.2.cell id cp
      have hf3 := hB3.2.2
      clear hx hB3 hg1 hg2 hB hfr1
      go_wp2
      clear c0 c1 c2 cp m2 m1
      obtain ⟨S, hK, hx, hSS⟩ := kept_open (kept_cons d0 (kept_cons d1 (kept_cons d2 (kept_cons d3 (kept_start hf3)))))
      have HSS := Lib.hid hSS
      simp only [forall_and] at hx
      obtain ⟨f_d0, f_d1, f_d2, f_d3, f_F⟩ := hx
      clear hSS
      refine wp_region_kept hK (by kernel_rfl) (by kernel_rfl) ?_
      intro hne
      repeat (quiet_step (first | fail))
      refine wpQuiet_nil ?_
      rintro wq ⟨⟨_, hq⟩, rfl⟩
      replace hq := HSS.out _ hq
      clear f_d0 f_d1 f_d2 f_d3 f_F hK hne HSS d0 d1 d2 d3 hf3 S
      obtain ⟨d0, d1, d2, d3, hf3⟩ := hq
      go_wp2
      go_roundw
      case rel => exact ⟨k + 1, by omega, by go_num, boxS_keep hf3 HB2.out, HF1.out.then0 hf3⟩
      case measure => simp [intOf]; omega
    · have HB2 := Lib.hid hB
      go_wp2
      go_region_held3 (BoxS w w.heap.size #[.int .u8 ph, .int .u64 st, .int .u64 cm, vw, vk, .slice (some ⟨bn, off, none⟩) ns.length cap, vg, vl, .bool fl])
        (first | exact HB2.out | exact boxS_keep ((Fr.refl _ _).drew) HB2.out | exact boxS_keep hf6 (by assumption) | assumption) (first
          | (go_at_call 69; go_loud (refine (HGS.out _ (by go_split_ands; assumption)).mono ?_); rintro e w2 ⟨v2, b2, rfl, hI2, hf6⟩)
          | (go_at_call 61; have hq := hI2; go_loud (refine (HEQ.out _ _ _ (by go_split_ands; assumption) hI2).mono ?_); rintro e w3 ⟨rfl, hf6⟩))
      all_goals
        go_wp2
        go_ret
        exact ⟨rfl, by go_split_ands; assumption⟩

set_option maxRecDepth 100000 in
set_option maxHeartbeats 4000000 in
theorem rroutes_any (w : World) (v : Value) (t : Txn) (h : IsTxn w v t) (hv : Inv t) (hr : RoutesOk t) : Calls Tryz.prog 49 #[v] w fun e w' => e = .returned (.bool true) ∧ Fr N0 w w' := by
  have hfew := hv.few
  obtain ⟨vw, vk, vn, vg, vl, rfl, h⟩ := h
  obtain ⟨bw, hw⟩ := h.ws
  obtain ⟨bn, hn⟩ := h.ns
  obtain ⟨bg, hg⟩ := h.gs
  have hlen : t.needs.length = (predsOf t.writes).length := by rw [← hr.same, List.length_map]
  have hpl : ∀ x ∈ t.writes, x.pred.size ≤ maxLen := fun x hx => by have := predOk_size (trMay_zero (hv.may x hx)).1; unfold maxLen; omega
  have hnl : t.needs.length ≤ 1000000 := by have := hr.few; omega
  have hps := fun W (hf : Fr N0 w W) => r4Preds_any W bw vw t.writes (hw.fr0 hf) (by omega)
  have hsame := hr.same
  rw [← show predsOf t.writes = normS (t.writes.map (·.pred)) from rfl, ← hsame] at hps
  have hgs := fun W (hf : Fr N0 w W) => rgroups_any W bn vn t.needs (hn.fr0 hf) hnl (fun r hr => (hv.rts r hr).1)
  have heq := fun W b' v' (hf : Fr N0 w W) (h2 : Ints .u32 W b' v' (groupsOf t.needs)) => rsameG_any W bg b' vg v' (groupsOf t.needs) (by rw [← hr.groups]; exact hg.fr0 hf) h2 (by have := normI_length (t.needs.map (·.group)); rw [List.length_map] at this; unfold groupsOf; omega)
  have hgood := hr.good
  have hpos := hr.some_
  obtain ⟨ph, st, cm, ws, ks, ns, gs, ls, fl⟩ := t
  simp only at hps hgs heq hgood hpos hnl hn hw hfew ⊢
  obtain ⟨a, off, cap, rfl, h1, h2, h3, -, h5⟩ := hn
  obtain rfl := h3 hpos
  have HPS := Lib.hid hps; have HGS := Lib.hid hgs; have HEQ := Lib.hid heq; have HG := Lib.hid hgood; have HC := Lib.hid h5
  have hp0 : (0 : Int) < (ns.length : Int) := by omega
  have hn0 : ((ns.length : Int) == 0) = false := beq_eq_false_iff_ne.2 (by omega)
  have hn1 : ((ns.length : Int) != (ns.length : Int)) = false := by simp
  have hn2 : ns.length ≠ 0 := by omega
  clear hps hgs heq hgood h hv hw hg hpl hsame hlen hr h3 h5
  go_enter Tryz.func49, Tryz.ntmps49
  go_wp2_with (go_at_call 77; go_loud (refine (HPS.out _ ((Fr.refl _ _).alloc _)).mono ?_); rintro e w1 ⟨vp, bp, rfl, hst, hf1⟩; have hB1 := boxS_keep hf1 (boxS_new w _ _); have m1 := hB1.1; have HB := Lib.hid hB1; obtain ⟨ap, offp, capp, rfl, p1, p2, p3, -, p5⟩ := hst; simp only [List.length_map] at p1 p3 p5 ⊢; obtain rfl := p3 hpos; have HP := Lib.hid p5; clear hB1 hf1 p3 p5)
  go_loopw [4] (fun i wr => ∃ k : Nat, k ≤ ns.length ∧ i = .int .i64 k ∧ BoxS w w.heap.size #[.int .u8 ph, .int .u64 st, .int .u64 cm, vw, vk, .slice (some ⟨bn, off, none⟩) ns.length cap, vg, vl, .bool fl] wr ∧ Fr N0 w1 wr) (fun i _ => ns.length - (intOf i).toNat)
  case atStart => exact ⟨0, Nat.zero_le _, rfl, HB.out, Fr.refl _ _⟩
  case round =>
    obtain ⟨k, hk, rfl, hB, hfr1⟩ := hrel
    have hfr := hB.2.2
    have m2 := hB.1
    by_cases hlt : k < ns.length
    · obtain ⟨c0, c1, c2⟩ := rt_cells (W := w) (HC.out k hlt)
      replace c0 := hfr.cell id c0; replace c1 := hfr.cell id c1; replace c2 := hfr.cell id c2
      have cp := hfr1.cell id (HP.out k (by simpa using hlt))
      rw [List.getElem_map] at cp
      obtain ⟨hg1, hg2⟩ := HG.out ns[k] (List.getElem_mem hlt)
      obtain ⟨x, hx⟩ : ∃ x, ns[k] = x := ⟨_, rfl⟩
      simp only [hx] at c0 c1 c2 cp hg1 hg2
      obtain ⟨xp, xg, xt⟩ := x
      simp only at c0 c1 c2 cp hg1 hg2
      have hki : (k : Int) < (ns.length : Int) := by omega
      have hb1 : (xp.toList != xp.toList) = false := by simp
      have hb2 : (xg == 0) = false := beq_eq_false_iff_ne.2 hg1
      have hb3 : (xt == 0) = false := beq_eq_false_iff_ne.2 hg2
      have HB2 := Lib.hid hB; have HF1 := Lib.hid hfr1
      have d5 : wr.cell? ⟨w.heap.size, 5, none⟩ = some (.slice (some ⟨bn, off, none⟩) ns.length cap) := hB.1 5
      have hf3 : Fr N0 wr wr := Fr.refl _ _
      clear hx hg1 hg2 hB hfr1
      go_wp2
      clear m2 m1
      obtain ⟨S, hK, hx, hSS⟩ := kept_open (kept_cons c0 (kept_cons c1 (kept_cons c2 (kept_cons cp (kept_cons d5 (kept_start hf3))))))
      have HSS := Lib.hid hSS
      simp only [forall_and] at hx
      obtain ⟨f_c0, f_c1, f_c2, f_cp, f_d5, f_F⟩ := hx
      clear hSS
      refine wp_region_kept hK (by kernel_rfl) (by kernel_rfl) ?_
      intro hne
      repeat (quiet_step (first | fail))
      refine wpQuiet_nil ?_
      rintro wq ⟨⟨_, hq⟩, rfl⟩
      replace hq := HSS.out _ hq
      clear f_c0 f_c1 f_c2 f_cp f_d5 f_F hK hne HSS c0 c1 c2 cp d5 hf3 S
      obtain ⟨c0, c1, c2, cp, d5, hf3⟩ := hq
      go_wp2
      go_roundw
      case rel => exact ⟨k + 1, by omega, by go_num, boxS_keep hf3 HB2.out, HF1.out.then0 hf3⟩
      case measure => simp [intOf]; omega
    · have HB2 := Lib.hid hB
      go_wp2
      go_region_held3 (BoxS w w.heap.size #[.int .u8 ph, .int .u64 st, .int .u64 cm, vw, vk, .slice (some ⟨bn, off, none⟩) ns.length cap, vg, vl, .bool fl])
        (first | exact HB2.out | exact boxS_keep ((Fr.refl _ _).drew) HB2.out | exact boxS_keep hf6 (by assumption) | assumption) (first
          | (go_at_call 78; go_loud (refine (HGS.out _ (by go_split_ands; assumption)).mono ?_); rintro e w2 ⟨v2, b2, rfl, hI2, hf6⟩)
          | (go_at_call 31; have hq := hI2; go_loud (refine (HEQ.out _ _ _ (by go_split_ands; assumption) hI2).mono ?_); rintro e w3 ⟨rfl, hf6⟩))
      all_goals
        go_wp2
        go_ret
        exact ⟨rfl, by go_split_ands; assumption⟩

end Go.Proofs.YthidminepegnoaaGreatDoor
namespace Go.Proofs.YthidminepegnoaaGreatDoor
open Go.RowKit Go.Shelf Go.Maps Go.Sort
attribute [local go_sem] Oper.semAt_some
attribute [local irreducible] wpQuiet
set_option linter.unusedVariables false
set_option linter.unusedSimpArgs false

theorem Inv.groups_few {t : Txn} (hv : Inv t) : t.groups.length ≤ 256 := by
  by_cases h : t.phase = 3 ∨ t.phase = 4 ∨ t.phase = 5
  · have hr := hv.moving h
    rw [hr.groups]
    have h1 := normI_length (t.needs.map (·.group))
    rw [List.length_map] at h1
    have h2 := hr.few
    unfold groupsOf; omega
  · have := (hv.still (by omega) (by omega) (by omega)).2
    rw [this]; simp
set_option maxRecDepth 100000 in
set_option maxHeartbeats 1000000 in
theorem xended_any (w : World) (v : Value) (t : Txn) (h : IsTxn w v t) (q : Bool) (hq : q = (decide (t.commit = 0) || decide (t.start < t.commit))) : Calls Tryz.prog 45 #[v] w fun e w' => e = .returned (.bool q) ∧ Fr N0 w w' := by
  obtain ⟨vw, vk, vn, vg, vl, rfl, h⟩ := h
  clear h
  obtain ⟨ph, st, cm, ws, ks, ns, gs, ls, fl⟩ := t
  simp only at hq ⊢
  have HQ := Lib.hid hq
  clear hq
  by_cases h0 : cm = 0
  · have hd : (cm == 0) = true := by simpa using h0
    go_enter Tryz.func45, Tryz.ntmps45
    go_wp2
    go_ret
    exact ⟨ret_bool (by rw [HQ.out, decide_eq_true h0]; rfl), (by repeat (first | exact Fr.refl _ _ | assumption | refine Fr.alloc ?_ _ | refine Fr.drew ?_ | refine Fr.drewN ?_ _ | refine Fr.setCell ?_ (.inr (by simp; try omega)) _))⟩
  · have hd : (cm == 0) = false := by simpa using h0
    go_enter Tryz.func45, Tryz.ntmps45
    go_wp2
    go_ret
    exact ⟨ret_bool (by rw [HQ.out, decide_eq_false h0]; rfl), (by repeat (first | exact Fr.refl _ _ | assumption | refine Fr.alloc ?_ _ | refine Fr.drew ?_ | refine Fr.drewN ?_ _ | refine Fr.setCell ?_ (.inr (by simp; try omega)) _))⟩

/-- The five slices' shapes. -/
theorem TxnIn.shapes {w : World} {vw vk vn vg vl : Value} {t : Txn} (h : TxnIn w vw vk vn vg vl t) :
    (∃ a c, vw = .slice a t.writes.length c) ∧ (∃ a c, vk = .slice a t.keys.length c) ∧ (∃ a c, vn = .slice a t.needs.length c) ∧ (∃ a c, vg = .slice a t.groups.length c) ∧ (∃ a c, vl = .slice a t.left.length c) := by
  obtain ⟨_, a, _, c, e, _⟩ := h.ws
  obtain ⟨_, a1, _, c1, e1, _⟩ := h.ks
  obtain ⟨_, a2, _, c2, e2, _⟩ := h.ns
  obtain ⟨_, a3, _, c3, e3, _⟩ := h.gs
  obtain ⟨_, a4, _, c4, e4, _⟩ := h.ls
  exact ⟨⟨a, c, e⟩, ⟨a1, c1, e1⟩, ⟨a2, c2, e2⟩, ⟨a3, c3, e3⟩, ⟨a4, c4, e4⟩⟩

set_option maxRecDepth 100000 in
set_option maxHeartbeats 4000000 in
theorem xMay_any (w : World) (v : Value) (t : Txn) (h : IsTxn w v t) (hv : Inv t) : Calls Tryz.prog 14 #[v] w fun e w' => e = .returned (.int .i64 0) ∧ Fr N0 w w' := by
  have hgf := hv.groups_few
  have hlf := hv.fewLeft
  have hW := fun W (hf : Fr N0 w W) => xwrites_any W v t (h.fr0 hf) hv
  have hR := fun (hr : RoutesOk t) W (hf : Fr N0 w W) => xrouted_any W v t (h.fr0 hf) hv hr
  have hL := fun q (hq : q = decide (0 < t.left.length)) W (hf : Fr N0 w W) => xleft_any W v t (h.fr0 hf) q hq (by omega) (by omega) hv.among hv.rises
  have hE := fun q (hq : q = (decide (t.commit = 0) || decide (t.start < t.commit))) W (hf : Fr N0 w W) => xended_any W v t (h.fr0 hf) q hq
  obtain ⟨vw, vk, vn, vg, vl, rfl, h⟩ := h
  obtain ⟨⟨aw, cw, rfl⟩, ⟨ak, ck, rfl⟩, ⟨an, cn, rfl⟩, ⟨ag, cg, rfl⟩, ⟨al, cl, rfl⟩⟩ := h.shapes
  clear h
  have hph : t.phase = 1 ∨ t.phase = 2 ∨ t.phase = 3 ∨ t.phase = 4 ∨ t.phase = 5 ∨ t.phase = 6 := by have := hv.phase; omega
  have HW := Lib.hid hW; have HR := Lib.hid hR; have HL := Lib.hid hL; have HE := Lib.hid hE; have HV := Lib.hid hv
  clear hW hR hL hE hv
  rcases hph with hp | hp | hp | hp | hp | hp
  · have h1 := HV.out.new hp
    have h2 := HV.out.still (by omega) (by omega) (by omega)
    have h3 := HV.out.none_ (by omega) (by omega)
    have h4 := HV.out.failed (by omega) (by omega)
    have h5 := HV.out.start.2 hp
    obtain ⟨ph, st, cm, ws, ks, ns, gs, ls, fl⟩ := t
    simp only at h1 h2 h3 h4 h5 hp HW ⊢
    obtain ⟨rfl, rfl⟩ := h1; obtain ⟨rfl, rfl⟩ := h2; subst h3; subst h4; subst h5; subst hp
    clear HR HL HE HV
    go_enter Tryz.func14, Tryz.ntmps14
    go_wp2_with (go_at_call 46; go_loud (refine (HW.out _ ((Fr.refl _ _).alloc _)).mono ?_); rintro e w1 ⟨rfl, hf1⟩; have hB1 := boxS_keep hf1 (boxS_new w _ _); have m1 := hB1.1; have HB := Lib.hid hB1; clear hB1)
    go_ret
    exact ⟨rfl, HB.out.2.2⟩
  · have h2 := HV.out.still (by omega) (by omega) (by omega)
    have h3 := HV.out.none_ (by omega) (by omega)
    have h4 := HV.out.failed (by omega) (by omega)
    have h5 : (t.start == 0) = false := beq_eq_false_iff_ne.2 fun h => by have := HV.out.start.1 h; omega
    have h6 := HV.out.open_ (by omega)
    obtain ⟨ph, st, cm, ws, ks, ns, gs, ls, fl⟩ := t
    simp only at h2 h3 h4 h5 h6 hp HW ⊢
    obtain ⟨rfl, rfl⟩ := h2; subst h3; subst h4; subst h6; subst hp
    clear HR HL HE HV
    go_enter Tryz.func14, Tryz.ntmps14
    go_wp2_with (go_at_call 46; go_loud (refine (HW.out _ ((Fr.refl _ _).alloc _)).mono ?_); rintro e w1 ⟨rfl, hf1⟩; have hB1 := boxS_keep hf1 (boxS_new w _ _); have m1 := hB1.1; have HB := Lib.hid hB1; clear hB1)
    go_ret
    exact ⟨rfl, HB.out.2.2⟩
  · have h2 := HR.out (HV.out.moving (by omega))
    have h3 := HL.out true (by have := HV.out.left (by omega); symm; rw [decide_eq_true_eq]; exact List.length_pos_iff.2 this)
    have h5 : (t.start == 0) = false := beq_eq_false_iff_ne.2 fun h => by have := HV.out.start.1 h; omega
    have h6 := HV.out.open_ (by omega)
    obtain ⟨ph, st, cm, ws, ks, ns, gs, ls, fl⟩ := t
    simp only at h2 h3 h5 h6 hp HW ⊢
    subst h6; subst hp
    have H2 := Lib.hid h2; have H3 := Lib.hid h3
    clear HR HL HE HV h2 h3
    go_enter Tryz.func14, Tryz.ntmps14
    go_wp2_with (first
      | (go_at_call 43; go_loud (refine (H2.out _ ((Fr.refl _ _).alloc _)).mono ?_); rintro e w1 ⟨rfl, hf1⟩; have hB1 := boxS_keep hf1 (boxS_new w _ _); have m1 := hB1.1; have HB := Lib.hid hB1; clear hB1)
      | (go_at_call 44; go_loud (refine (H3.out _ HB.out.2.2).mono ?_); rintro e w2 ⟨rfl, hf2⟩; have hB2 := boxS_keep hf2 HB.out; have m2 := hB2.1; have HB2 := Lib.hid hB2; clear hB2)
      | (go_at_call 46; go_loud (refine (HW.out _ HB2.out.2.2).mono ?_); rintro e w3 ⟨rfl, hf3⟩; have hB3 := boxS_keep hf3 HB2.out; have m3 := hB3.1; have HB3 := Lib.hid hB3; clear hB3))
    go_ret
    exact ⟨rfl, HB3.out.2.2⟩
  · have h2 := HR.out (HV.out.moving (by omega))
    have h3 := HL.out false (by have := HV.out.none_ (by omega) (by omega); rw [this]; rfl)
    have h5 : (t.start == 0) = false := beq_eq_false_iff_ne.2 fun h => by have := HV.out.start.1 h; omega
    have h6 := HV.out.open_ (by omega)
    obtain ⟨ph, st, cm, ws, ks, ns, gs, ls, fl⟩ := t
    simp only at h2 h3 h5 h6 hp HW ⊢
    subst h6; subst hp
    have H2 := Lib.hid h2; have H3 := Lib.hid h3
    clear HR HL HE HV h2 h3
    go_enter Tryz.func14, Tryz.ntmps14
    go_wp2_with (first
      | (go_at_call 43; go_loud (refine (H2.out _ ((Fr.refl _ _).alloc _)).mono ?_); rintro e w1 ⟨rfl, hf1⟩; have hB1 := boxS_keep hf1 (boxS_new w _ _); have m1 := hB1.1; have HB := Lib.hid hB1; clear hB1)
      | (go_at_call 44; go_loud (refine (H3.out _ HB.out.2.2).mono ?_); rintro e w2 ⟨rfl, hf2⟩; have hB2 := boxS_keep hf2 HB.out; have m2 := hB2.1; have HB2 := Lib.hid hB2; clear hB2)
      | (go_at_call 46; go_loud (refine (HW.out _ HB2.out.2.2).mono ?_); rintro e w3 ⟨rfl, hf3⟩; have hB3 := boxS_keep hf3 HB2.out; have m3 := hB3.1; have HB3 := Lib.hid hB3; clear hB3))
    go_ret
    exact ⟨rfl, HB3.out.2.2⟩
  · have h2 := HR.out (HV.out.moving (by omega))
    have h3 := HL.out true (by have := HV.out.left (by omega); symm; rw [decide_eq_true_eq]; exact List.length_pos_iff.2 this)
    have h4 := HV.out.failed (by omega) (by omega)
    have h5 : (t.start == 0) = false := beq_eq_false_iff_ne.2 fun h => by have := HV.out.start.1 h; omega
    have h7 := HE.out true (by have := HV.out.ended (by omega); symm; rw [Bool.or_eq_true, decide_eq_true_eq, decide_eq_true_eq]; exact this)
    obtain ⟨ph, st, cm, ws, ks, ns, gs, ls, fl⟩ := t
    simp only at h2 h3 h4 h5 h7 hp HW ⊢
    subst h4; subst hp
    have H2 := Lib.hid h2; have H3 := Lib.hid h3; have H7 := Lib.hid h7
    clear HR HL HE HV h2 h3 h7
    go_enter Tryz.func14, Tryz.ntmps14
    go_wp2_with (first
      | (go_at_call 45; go_loud (refine (H7.out _ ((Fr.refl _ _).alloc _)).mono ?_); rintro e w0 ⟨rfl, hf0⟩; have hB0 := boxS_keep hf0 (boxS_new w _ _); have m0 := hB0.1; have HB0 := Lib.hid hB0; clear hB0)
      | (go_at_call 43; go_loud (refine (H2.out _ HB0.out.2.2).mono ?_); rintro e w1 ⟨rfl, hf1⟩; have hB1 := boxS_keep hf1 HB0.out; have m1 := hB1.1; have HB := Lib.hid hB1; clear hB1)
      | (go_at_call 44; go_loud (refine (H3.out _ HB.out.2.2).mono ?_); rintro e w2 ⟨rfl, hf2⟩; have hB2 := boxS_keep hf2 HB.out; have m2 := hB2.1; have HB2 := Lib.hid hB2; clear hB2)
      | (go_at_call 46; go_loud (refine (HW.out _ HB2.out.2.2).mono ?_); rintro e w3 ⟨rfl, hf3⟩; have hB3 := boxS_keep hf3 HB2.out; have m3 := hB3.1; have HB3 := Lib.hid hB3; clear hB3))
    go_ret
    exact ⟨rfl, HB3.out.2.2⟩
  · have h2 := HV.out.still (by omega) (by omega) (by omega)
    have h3 := HV.out.none_ (by omega) (by omega)
    have h4 := HV.out.failed (by omega) (by omega)
    have h5 : (t.start == 0) = false := beq_eq_false_iff_ne.2 fun h => by have := HV.out.start.1 h; omega
    have h8 := HV.out.read hp
    have h9 := fun h => HV.out.ended (.inr ⟨hp, h⟩)
    obtain ⟨q, hq⟩ : ∃ q, q = (decide (t.commit = 0) || decide (t.start < t.commit)) := ⟨_, rfl⟩
    have h7 := HE.out q hq
    obtain ⟨ph, st, cm, ws, ks, ns, gs, ls, fl⟩ := t
    simp only at h2 h3 h4 h5 h7 h8 h9 hq hp HW ⊢
    obtain ⟨rfl, rfl⟩ := h2; subst h3; subst h4; subst hp
    have H7 := Lib.hid h7
    clear HR HL HE HV h7
    by_cases hw : ws = []
    · subst hw
      have hd : (cm == 0) = true ∨ (cm == 0) = false ∧ (cm == st) = true := by
        rcases h8 rfl with h | h
        · exact .inl (by simpa using h)
        · by_cases h0 : cm = 0
          · exact .inl (by simpa using h0)
          · exact .inr ⟨by simpa using h0, by simpa using h⟩
      clear h8 h9 hq
      rcases hd with hd | ⟨hd, hd2⟩
      all_goals
        go_enter Tryz.func14, Tryz.ntmps14
        go_wp2_with (first
          | (go_at_call 45; go_loud (refine (H7.out _ ((Fr.refl _ _).alloc _)).mono ?_); rintro e w0 ⟨rfl, hf0⟩; have hB0 := boxS_keep hf0 (boxS_new w _ _); have m0 := hB0.1; have HB0 := Lib.hid hB0; clear hB0)
          | (go_at_call 46; go_loud (refine (HW.out _ HB0.out.2.2).mono ?_); rintro e w3 ⟨rfl, hf3⟩; have hB3 := boxS_keep hf3 HB0.out; have m3 := hB3.1; have HB3 := Lib.hid hB3; clear hB3))
        go_ret
        exact ⟨rfl, HB3.out.2.2⟩
    · have hwl : ((ws.length : Int) == 0) = false := beq_eq_false_iff_ne.2 fun h => hw (List.eq_nil_of_length_eq_zero (by omega))
      have hq1 : q = true := by rw [hq, Bool.or_eq_true, decide_eq_true_eq, decide_eq_true_eq]; exact h9 hw
      subst hq1
      clear h8 h9 hq
      go_enter Tryz.func14, Tryz.ntmps14
      go_wp2_with (first
        | (go_at_call 45; go_loud (refine (H7.out _ ((Fr.refl _ _).alloc _)).mono ?_); rintro e w0 ⟨rfl, hf0⟩; have hB0 := boxS_keep hf0 (boxS_new w _ _); have m0 := hB0.1; have HB0 := Lib.hid hB0; clear hB0)
        | (go_at_call 46; go_loud (refine (HW.out _ HB0.out.2.2).mono ?_); rintro e w3 ⟨rfl, hf3⟩; have hB3 := boxS_keep hf3 HB0.out; have m3 := hB3.1; have HB3 := Lib.hid hB3; clear hB3))
      go_ret
      exact ⟨rfl, HB3.out.2.2⟩

end Go.Proofs.YthidminepegnoaaGreatDoor
