/- Which transactions may be: the document's May. -/
import Derived.Test.YthidminepegnoaaGreatDoorQMay
namespace Go.Proofs.YthidminepegnoaaGreatDoor
open Go.RowKit Go.Shelf Go.Maps Go.Sort
attribute [local go_sem] Oper.semAt_some
attribute [local irreducible] wpQuiet
set_option linter.unusedVariables false
set_option linter.unusedSimpArgs false

theorem rising_call {w W : World} {v : Value} {t : Txn} (h : IsTxn w v t) (hf : Fr N0 w W) (hv : Inv t) : ∀ vw vk vn vg vl, v = .agg #[.int .u8 t.phase, .int .u64 t.start, .int .u64 t.commit, vw, vk, vn, vg, vl, .bool t.failed] → Calls Tryz.prog 47 #[vk] W fun e w' => e = .returned (.bool true) ∧ Fr N0 W w' := by
  rintro vw vk vn vg vl rfl
  obtain ⟨vw', vk', vn', vg', vl', e, h⟩ := h
  obtain ⟨-, -, -, rfl, rfl, rfl, rfl, rfl, -⟩ : True ∧ True ∧ True ∧ vw = vw' ∧ vk = vk' ∧ vn = vn' ∧ vg = vg' ∧ vl = vl' ∧ True := by simpa using e
  obtain ⟨b, hk⟩ := h.ks
  exact rrising_any W b vk t.keys (hk.fr0 hf) hv.keys (by have := hv.fewKeys; omega)
theorem len0_eq {t : Txn} (hv : Inv t) : ((t.keys.length : Int) == 0) = ((t.writes.length : Int) == 0) := by
  rw [Bool.eq_iff_iff, beq_iff_eq, beq_iff_eq]
  have h1 := hv.keyed
  rw [← List.length_eq_zero_iff, ← List.length_eq_zero_iff] at h1
  omega
theorem some_call {w W : World} {v : Value} {t : Txn} (h : IsTxn w v t) (hf : Fr N0 w W) (hv : Inv t) : ∀ vw vk vn vg vl, v = .agg #[.int .u8 t.phase, .int .u64 t.start, .int .u64 t.commit, vw, vk, vn, vg, vl, .bool t.failed] → Calls Tryz.prog 50 #[vl, vg] W fun e w' => e = .returned (.bool true) ∧ Fr N0 W w' := by
  rintro vw vk vn vg vl rfl
  obtain ⟨vw', vk', vn', vg', vl', e, h⟩ := h
  obtain ⟨-, -, -, rfl, rfl, rfl, rfl, rfl, -⟩ : True ∧ True ∧ True ∧ vw = vw' ∧ vk = vk' ∧ vn = vn' ∧ vg = vg' ∧ vl = vl' ∧ True := by simpa using e
  obtain ⟨b, hl⟩ := h.ls
  obtain ⟨c, hg⟩ := h.gs
  exact rsome_any W b c vl vg t.left t.groups (hl.fr0 hf) (hg.fr0 hf) (by have := hv.fewLeft; omega) (by have := hv.groups_few; omega) hv.among hv.rises

set_option maxRecDepth 100000 in
set_option maxHeartbeats 4000000 in
theorem rMay_p1 (w : World) (v : Value) (t : Txn) (h : IsTxn w v t) (hv : Inv t) (hp : t.phase = 1) : Calls Tryz.prog 16 #[v] w fun e w' => e = .returned (.bool true) ∧ Fr N0 w w' := by
  have hK := fun W (hf : Fr N0 w W) => rising_call h hf hv
  have hS := fun W (hf : Fr N0 w W) => some_call h hf hv
  obtain ⟨vw, vk, vn, vg, vl, rfl, h⟩ := h
  obtain ⟨⟨ak, ck, rfl⟩, ⟨an, cn, rfl⟩, ⟨ag, cg, rfl⟩, ⟨al, cl, rfl⟩⟩ := h.shapes.2
  obtain ⟨bw, aw, offw, cw, rfl, h1, h2, h3, -, h5⟩ := h.ws
  clear h
  have hfew := hv.few
  have hok := hv.may
  have hkw : decide (0 < t.keys.length) = decide (0 < t.writes.length) := by
    have h1 := hv.keyed
    cases hk : t.keys <;> cases hw : t.writes <;> simp_all
  have hkw2 : ((t.keys.length : Int) == 0) = ((t.writes.length : Int) == 0) := len0_eq hv
  have hst := hv.start.2 hp
  have hns := hv.still (by omega) (by omega) (by omega)
  have hll := hv.none_ (by omega) (by omega)
  have hfl := hv.failed (by omega) (by omega)
  have hnew := hv.new hp
  clear hv
  obtain ⟨PH, ST, CM, ws, ks, NS, GS, LS, FL⟩ := t
  simp only at *
  subst hp
  subst hst
  obtain ⟨rfl, rfl⟩ := hns
  subst hll
  subst hfl
  obtain ⟨rfl, rfl⟩ := hnew
  have HC := Lib.hid h5; have HOK := Lib.hid hok; have HK := Lib.hid hK; have HS := Lib.hid hS
  clear h5 hok hK hS
  have hkk : ks = [] := by cases ks with
    | nil => rfl
    | cons a b => simp at hkw
  subst hkk
  · go_enter Tryz.func16, Tryz.ntmps16
    go_wp2_with (go_at_call 47; go_loud (refine (HK.out _ ((Fr.refl _ _).alloc _) _ _ _ _ _ rfl).mono ?_); rintro e w1 ⟨rfl, hf1⟩; have hB1 := boxS_keep hf1 (boxS_new w _ _); have m1 := hB1.1; have HB := Lib.hid hB1; clear hB1)
    go_loopw [3] (fun i wr => i = .int .i64 0 ∧ BoxS w w.heap.size #[.int .u8 1, .int .u64 0, .int .u64 0, .slice aw 0 cw, .slice ak 0 ck, .slice an 0 cn, .slice ag 0 cg, .slice al 0 cl, .bool false] wr) (fun i _ => 0)
    case atStart => exact ⟨rfl, HB.out⟩
    case round =>
      obtain ⟨rfl, hB⟩ := hrel
      have m2 := hB.1
      have HB2 := Lib.hid hB
      clear hB h3
      · skip
        go_wp2_with (first
            | (go_at_call 50; go_loud (refine (HS.out _ HB2.out.2.2 _ _ _ _ _ rfl).mono ?_); rintro e w4 ⟨rfl, hf4⟩; have hB4 := boxS_keep hf4 HB2.out; have m4 := hB4.1; have HB4 := Lib.hid hB4; clear hB4))
        all_goals
          go_ret
          exact ⟨rfl, HB4.out.2.2⟩

set_option maxRecDepth 100000 in
set_option maxHeartbeats 4000000 in
theorem rMay_p2 (w : World) (v : Value) (t : Txn) (h : IsTxn w v t) (hv : Inv t) (hp : t.phase = 2) : Calls Tryz.prog 16 #[v] w fun e w' => e = .returned (.bool true) ∧ Fr N0 w w' := by
  have hK := fun W (hf : Fr N0 w W) => rising_call h hf hv
  have hS := fun W (hf : Fr N0 w W) => some_call h hf hv
  obtain ⟨vw, vk, vn, vg, vl, rfl, h⟩ := h
  obtain ⟨⟨ak, ck, rfl⟩, ⟨an, cn, rfl⟩, ⟨ag, cg, rfl⟩, ⟨al, cl, rfl⟩⟩ := h.shapes.2
  obtain ⟨bw, aw, offw, cw, rfl, h1, h2, h3, -, h5⟩ := h.ws
  clear h
  have hfew := hv.few
  have hok := hv.may
  have hkw : decide (0 < t.keys.length) = decide (0 < t.writes.length) := by
    have h1 := hv.keyed
    cases hk : t.keys <;> cases hw : t.writes <;> simp_all
  have hkw2 : ((t.keys.length : Int) == 0) = ((t.writes.length : Int) == 0) := len0_eq hv
  have hst : (t.start == 0) = false := beq_eq_false_iff_ne.2 fun h => by have := hv.start.1 h; omega
  have hns := hv.still (by omega) (by omega) (by omega)
  have hll := hv.none_ (by omega) (by omega)
  have hfl := hv.failed (by omega) (by omega)
  have hcm := hv.open_ (by omega)
  clear hv
  obtain ⟨PH, ST, CM, ws, ks, NS, GS, LS, FL⟩ := t
  simp only at *
  subst hp
  obtain ⟨rfl, rfl⟩ := hns
  subst hll
  subst hfl
  subst hcm
  have HC := Lib.hid h5; have HOK := Lib.hid hok; have HK := Lib.hid hK; have HS := Lib.hid hS
  clear h5 hok hK hS
  obtain ⟨q, hq⟩ : ∃ q, ((ws.length : Int) == 0) = q := ⟨_, rfl⟩
  rw [hq] at hkw2
  have hl1 : decide ((256 : Int) < (ws.length : Int)) = false := decide_eq_false (by omega)
  have hl2 : decide (256 < ws.length) = false := decide_eq_false (by omega)
  · go_enter Tryz.func16, Tryz.ntmps16
    go_wp2_with (go_at_call 47; go_loud (refine (HK.out _ ((Fr.refl _ _).alloc _) _ _ _ _ _ rfl).mono ?_); rintro e w1 ⟨rfl, hf1⟩; have hB1 := boxS_keep hf1 (boxS_new w _ _); have m1 := hB1.1; have HB := Lib.hid hB1; clear hB1)
    go_loopw [3] (fun i wr => ∃ k : Nat, k ≤ ws.length ∧ i = .int .i64 k ∧ BoxS w w.heap.size #[.int .u8 2, .int .u64 ST, .int .u64 0, .slice aw ws.length cw, .slice ak ks.length ck, .slice an 0 cn, .slice ag 0 cg, .slice al 0 cl, .bool false] wr) (fun i _ => ws.length - (intOf i).toNat)
    case atStart => exact ⟨0, Nat.zero_le _, rfl, HB.out⟩
    case round =>
      obtain ⟨k, hk, rfl, hB⟩ := hrel
      have m2 := hB.1
      have hfr := hB.2.2
      have HB2 := Lib.hid hB
      clear hB
      by_cases hlt : k < ws.length
      · obtain rfl := h3 (by omega)
        obtain ⟨c0, c1, c2, c3, c4, c5, c6, c7⟩ := wr_cells (W := w) (HC.out k hlt)
        replace c1 := hfr.cell id c1; replace c2 := hfr.cell id c2; replace c3 := hfr.cell id c3
        replace c4 := hfr.cell id c4; replace c5 := hfr.cell id c5; replace c6 := hfr.cell id c6; replace c7 := hfr.cell id c7
        have hm0 := HOK.out ws[k] (List.getElem_mem hlt)
        have hcall := fun W => r4May_any ws[k] W
        rw [hm0] at hcall
        obtain ⟨x, hx⟩ : ∃ x, ws[k] = x := ⟨_, rfl⟩
        simp only [hx] at c1 c2 c3 c4 c5 c6 c7 hcall
        obtain ⟨xd, xu, xp, vk, vb, vn, vs, vu⟩ := x
        unfold Wr.tenc at hcall
        simp only at c1 c2 c3 c4 c5 c6 c7 hcall
        have hki : (k : Int) < (ws.length : Int) := by omega
        have HX := Lib.hid hcall
        clear hcall hx hm0 c0
        go_wp2_with (go_at_call 48; go_loud (refine (HX.out _).mono ?_); rintro e w3 ⟨rfl, hf3⟩)
        go_roundw
        case rel => exact ⟨k + 1, by omega, by go_num, boxS_keep hf3 HB2.out⟩
        case measure => simp [intOf]; omega
      · clear h3
        go_wp2_with (first
            | (go_at_call 50; go_loud (refine (HS.out _ HB2.out.2.2 _ _ _ _ _ rfl).mono ?_); rintro e w4 ⟨rfl, hf4⟩; have hB4 := boxS_keep hf4 HB2.out; have m4 := hB4.1; have HB4 := Lib.hid hB4; clear hB4))
        all_goals
          go_ret
          exact ⟨rfl, HB4.out.2.2⟩

set_option maxRecDepth 100000 in
set_option maxHeartbeats 4000000 in
theorem rMay_p3 (w : World) (v : Value) (t : Txn) (h : IsTxn w v t) (hv : Inv t) (hp : t.phase = 3) : Calls Tryz.prog 16 #[v] w fun e w' => e = .returned (.bool true) ∧ Fr N0 w w' := by
  have hK := fun W (hf : Fr N0 w W) => rising_call h hf hv
  have hR := fun W (hf : Fr N0 w W) => rroutes_any W v t (h.fr0 hf) hv (hv.moving (by omega))
  have hS := fun W (hf : Fr N0 w W) => some_call h hf hv
  obtain ⟨vw, vk, vn, vg, vl, rfl, h⟩ := h
  obtain ⟨⟨ak, ck, rfl⟩, ⟨an, cn, rfl⟩, ⟨ag, cg, rfl⟩, ⟨al, cl, rfl⟩⟩ := h.shapes.2
  obtain ⟨bw, aw, offw, cw, rfl, h1, h2, h3, -, h5⟩ := h.ws
  clear h
  have hfew := hv.few
  have hok := hv.may
  have hkw : decide (0 < t.keys.length) = decide (0 < t.writes.length) := by
    have h1 := hv.keyed
    cases hk : t.keys <;> cases hw : t.writes <;> simp_all
  have hkw2 : ((t.keys.length : Int) == 0) = ((t.writes.length : Int) == 0) := len0_eq hv
  have hst : (t.start == 0) = false := beq_eq_false_iff_ne.2 fun h => by have := hv.start.1 h; omega
  have hll : decide (0 < t.left.length) = true := decide_eq_true (List.length_pos_iff.2 (hv.left (by omega)))
  have hcm := hv.open_ (by omega)
  clear hv
  obtain ⟨PH, ST, CM, ws, ks, NS, GS, LS, FL⟩ := t
  simp only at *
  subst hp
  subst hcm
  have HC := Lib.hid h5; have HOK := Lib.hid hok; have HK := Lib.hid hK; have HS := Lib.hid hS; have HR := Lib.hid hR
  clear h5 hok hK hS hR
  obtain ⟨q, hq⟩ : ∃ q, ((ws.length : Int) == 0) = q := ⟨_, rfl⟩
  rw [hq] at hkw2
  have hl1 : decide ((256 : Int) < (ws.length : Int)) = false := decide_eq_false (by omega)
  have hl2 : decide (256 < ws.length) = false := decide_eq_false (by omega)
  · go_enter Tryz.func16, Tryz.ntmps16
    go_wp2_with (go_at_call 47; go_loud (refine (HK.out _ ((Fr.refl _ _).alloc _) _ _ _ _ _ rfl).mono ?_); rintro e w1 ⟨rfl, hf1⟩; have hB1 := boxS_keep hf1 (boxS_new w _ _); have m1 := hB1.1; have HB := Lib.hid hB1; clear hB1)
    go_loopw [3] (fun i wr => ∃ k : Nat, k ≤ ws.length ∧ i = .int .i64 k ∧ BoxS w w.heap.size #[.int .u8 3, .int .u64 ST, .int .u64 0, .slice aw ws.length cw, .slice ak ks.length ck, .slice an NS.length cn, .slice ag GS.length cg, .slice al LS.length cl, .bool FL] wr) (fun i _ => ws.length - (intOf i).toNat)
    case atStart => exact ⟨0, Nat.zero_le _, rfl, HB.out⟩
    case round =>
      obtain ⟨k, hk, rfl, hB⟩ := hrel
      have m2 := hB.1
      have hfr := hB.2.2
      have HB2 := Lib.hid hB
      clear hB
      by_cases hlt : k < ws.length
      · obtain rfl := h3 (by omega)
        obtain ⟨c0, c1, c2, c3, c4, c5, c6, c7⟩ := wr_cells (W := w) (HC.out k hlt)
        replace c1 := hfr.cell id c1; replace c2 := hfr.cell id c2; replace c3 := hfr.cell id c3
        replace c4 := hfr.cell id c4; replace c5 := hfr.cell id c5; replace c6 := hfr.cell id c6; replace c7 := hfr.cell id c7
        have hm0 := HOK.out ws[k] (List.getElem_mem hlt)
        have hcall := fun W => r4May_any ws[k] W
        rw [hm0] at hcall
        obtain ⟨x, hx⟩ : ∃ x, ws[k] = x := ⟨_, rfl⟩
        simp only [hx] at c1 c2 c3 c4 c5 c6 c7 hcall
        obtain ⟨xd, xu, xp, vk, vb, vn, vs, vu⟩ := x
        unfold Wr.tenc at hcall
        simp only at c1 c2 c3 c4 c5 c6 c7 hcall
        have hki : (k : Int) < (ws.length : Int) := by omega
        have HX := Lib.hid hcall
        clear hcall hx hm0 c0
        go_wp2_with (go_at_call 48; go_loud (refine (HX.out _).mono ?_); rintro e w3 ⟨rfl, hf3⟩)
        go_roundw
        case rel => exact ⟨k + 1, by omega, by go_num, boxS_keep hf3 HB2.out⟩
        case measure => simp [intOf]; omega
      · clear h3
        go_wp2_with (first
            | (go_at_call 49; go_loud (refine (HR.out _ HB2.out.2.2).mono ?_); rintro e w3 ⟨rfl, hf3⟩; have hB3 := boxS_keep hf3 HB2.out; have m3 := hB3.1; have HB3 := Lib.hid hB3; clear hB3)
            | (go_at_call 50; go_loud (refine (HS.out _ HB3.out.2.2 _ _ _ _ _ rfl).mono ?_); rintro e w4 ⟨rfl, hf4⟩; have hB4 := boxS_keep hf4 HB3.out; have m4 := hB4.1; have HB4 := Lib.hid hB4; clear hB4))
        all_goals
          go_ret
          exact ⟨rfl, HB4.out.2.2⟩

set_option maxRecDepth 100000 in
set_option maxHeartbeats 4000000 in
theorem rMay_p4 (w : World) (v : Value) (t : Txn) (h : IsTxn w v t) (hv : Inv t) (hp : t.phase = 4) : Calls Tryz.prog 16 #[v] w fun e w' => e = .returned (.bool true) ∧ Fr N0 w w' := by
  have hK := fun W (hf : Fr N0 w W) => rising_call h hf hv
  have hR := fun W (hf : Fr N0 w W) => rroutes_any W v t (h.fr0 hf) hv (hv.moving (by omega))
  have hS := fun W (hf : Fr N0 w W) => some_call h hf hv
  obtain ⟨vw, vk, vn, vg, vl, rfl, h⟩ := h
  obtain ⟨⟨ak, ck, rfl⟩, ⟨an, cn, rfl⟩, ⟨ag, cg, rfl⟩, ⟨al, cl, rfl⟩⟩ := h.shapes.2
  obtain ⟨bw, aw, offw, cw, rfl, h1, h2, h3, -, h5⟩ := h.ws
  clear h
  have hfew := hv.few
  have hok := hv.may
  have hkw : decide (0 < t.keys.length) = decide (0 < t.writes.length) := by
    have h1 := hv.keyed
    cases hk : t.keys <;> cases hw : t.writes <;> simp_all
  have hkw2 : ((t.keys.length : Int) == 0) = ((t.writes.length : Int) == 0) := len0_eq hv
  have hst : (t.start == 0) = false := beq_eq_false_iff_ne.2 fun h => by have := hv.start.1 h; omega
  have hll := hv.none_ (by omega) (by omega)
  have hcm := hv.open_ (by omega)
  clear hv
  obtain ⟨PH, ST, CM, ws, ks, NS, GS, LS, FL⟩ := t
  simp only at *
  subst hp
  subst hll
  subst hcm
  have HC := Lib.hid h5; have HOK := Lib.hid hok; have HK := Lib.hid hK; have HS := Lib.hid hS; have HR := Lib.hid hR
  clear h5 hok hK hS hR
  obtain ⟨q, hq⟩ : ∃ q, ((ws.length : Int) == 0) = q := ⟨_, rfl⟩
  rw [hq] at hkw2
  have hl1 : decide ((256 : Int) < (ws.length : Int)) = false := decide_eq_false (by omega)
  have hl2 : decide (256 < ws.length) = false := decide_eq_false (by omega)
  · go_enter Tryz.func16, Tryz.ntmps16
    go_wp2_with (go_at_call 47; go_loud (refine (HK.out _ ((Fr.refl _ _).alloc _) _ _ _ _ _ rfl).mono ?_); rintro e w1 ⟨rfl, hf1⟩; have hB1 := boxS_keep hf1 (boxS_new w _ _); have m1 := hB1.1; have HB := Lib.hid hB1; clear hB1)
    go_loopw [3] (fun i wr => ∃ k : Nat, k ≤ ws.length ∧ i = .int .i64 k ∧ BoxS w w.heap.size #[.int .u8 4, .int .u64 ST, .int .u64 0, .slice aw ws.length cw, .slice ak ks.length ck, .slice an NS.length cn, .slice ag GS.length cg, .slice al 0 cl, .bool FL] wr) (fun i _ => ws.length - (intOf i).toNat)
    case atStart => exact ⟨0, Nat.zero_le _, rfl, HB.out⟩
    case round =>
      obtain ⟨k, hk, rfl, hB⟩ := hrel
      have m2 := hB.1
      have hfr := hB.2.2
      have HB2 := Lib.hid hB
      clear hB
      by_cases hlt : k < ws.length
      · obtain rfl := h3 (by omega)
        obtain ⟨c0, c1, c2, c3, c4, c5, c6, c7⟩ := wr_cells (W := w) (HC.out k hlt)
        replace c1 := hfr.cell id c1; replace c2 := hfr.cell id c2; replace c3 := hfr.cell id c3
        replace c4 := hfr.cell id c4; replace c5 := hfr.cell id c5; replace c6 := hfr.cell id c6; replace c7 := hfr.cell id c7
        have hm0 := HOK.out ws[k] (List.getElem_mem hlt)
        have hcall := fun W => r4May_any ws[k] W
        rw [hm0] at hcall
        obtain ⟨x, hx⟩ : ∃ x, ws[k] = x := ⟨_, rfl⟩
        simp only [hx] at c1 c2 c3 c4 c5 c6 c7 hcall
        obtain ⟨xd, xu, xp, vk, vb, vn, vs, vu⟩ := x
        unfold Wr.tenc at hcall
        simp only at c1 c2 c3 c4 c5 c6 c7 hcall
        have hki : (k : Int) < (ws.length : Int) := by omega
        have HX := Lib.hid hcall
        clear hcall hx hm0 c0
        go_wp2_with (go_at_call 48; go_loud (refine (HX.out _).mono ?_); rintro e w3 ⟨rfl, hf3⟩)
        go_roundw
        case rel => exact ⟨k + 1, by omega, by go_num, boxS_keep hf3 HB2.out⟩
        case measure => simp [intOf]; omega
      · clear h3
        go_wp2_with (first
            | (go_at_call 49; go_loud (refine (HR.out _ HB2.out.2.2).mono ?_); rintro e w3 ⟨rfl, hf3⟩; have hB3 := boxS_keep hf3 HB2.out; have m3 := hB3.1; have HB3 := Lib.hid hB3; clear hB3)
            | (go_at_call 50; go_loud (refine (HS.out _ HB3.out.2.2 _ _ _ _ _ rfl).mono ?_); rintro e w4 ⟨rfl, hf4⟩; have hB4 := boxS_keep hf4 HB3.out; have m4 := hB4.1; have HB4 := Lib.hid hB4; clear hB4))
        all_goals
          go_ret
          exact ⟨rfl, HB4.out.2.2⟩

set_option maxRecDepth 100000 in
set_option maxHeartbeats 4000000 in
theorem rMay_p5 (w : World) (v : Value) (t : Txn) (h : IsTxn w v t) (hv : Inv t) (hp : t.phase = 5) : Calls Tryz.prog 16 #[v] w fun e w' => e = .returned (.bool true) ∧ Fr N0 w w' := by
  have hK := fun W (hf : Fr N0 w W) => rising_call h hf hv
  have hR := fun W (hf : Fr N0 w W) => rroutes_any W v t (h.fr0 hf) hv (hv.moving (by omega))
  have hS := fun W (hf : Fr N0 w W) => some_call h hf hv
  obtain ⟨vw, vk, vn, vg, vl, rfl, h⟩ := h
  obtain ⟨⟨ak, ck, rfl⟩, ⟨an, cn, rfl⟩, ⟨ag, cg, rfl⟩, ⟨al, cl, rfl⟩⟩ := h.shapes.2
  obtain ⟨bw, aw, offw, cw, rfl, h1, h2, h3, -, h5⟩ := h.ws
  clear h
  have hfew := hv.few
  have hok := hv.may
  have hkw : decide (0 < t.keys.length) = decide (0 < t.writes.length) := by
    have h1 := hv.keyed
    cases hk : t.keys <;> cases hw : t.writes <;> simp_all
  have hkw2 : ((t.keys.length : Int) == 0) = ((t.writes.length : Int) == 0) := len0_eq hv
  have hst : (t.start == 0) = false := beq_eq_false_iff_ne.2 fun h => by have := hv.start.1 h; omega
  have hll : decide (0 < t.left.length) = true := decide_eq_true (List.length_pos_iff.2 (hv.left (by omega)))
  have hfl := hv.failed (by omega) (by omega)
  have hend : (t.commit == 0 || decide (t.start < t.commit)) = true := by
    have := hv.ended (by omega)
    rw [Bool.or_eq_true, decide_eq_true_eq, beq_iff_eq]; exact this
  clear hv
  obtain ⟨PH, ST, CM, ws, ks, NS, GS, LS, FL⟩ := t
  simp only at *
  subst hp
  subst hfl
  have HC := Lib.hid h5; have HOK := Lib.hid hok; have HK := Lib.hid hK; have HS := Lib.hid hS; have HR := Lib.hid hR
  clear h5 hok hK hS hR
  obtain ⟨q, hq⟩ : ∃ q, ((ws.length : Int) == 0) = q := ⟨_, rfl⟩
  rw [hq] at hkw2
  have hl1 : decide ((256 : Int) < (ws.length : Int)) = false := decide_eq_false (by omega)
  have hl2 : decide (256 < ws.length) = false := decide_eq_false (by omega)
  have hend2 : (CM == 0) = true ∨ (CM == 0) = false ∧ decide (ST < CM) = true := by
    cases hc : (CM == 0)
    · rw [hc] at hend; exact .inr ⟨rfl, by simpa using hend⟩
    · exact .inl rfl
  clear hend
  rcases hend2 with hd | ⟨hd, hd2⟩
  all_goals
    go_enter Tryz.func16, Tryz.ntmps16
    go_wp2_with (go_at_call 47; go_loud (refine (HK.out _ ((Fr.refl _ _).alloc _) _ _ _ _ _ rfl).mono ?_); rintro e w1 ⟨rfl, hf1⟩; have hB1 := boxS_keep hf1 (boxS_new w _ _); have m1 := hB1.1; have HB := Lib.hid hB1; clear hB1)
    go_loopw [3] (fun i wr => ∃ k : Nat, k ≤ ws.length ∧ i = .int .i64 k ∧ BoxS w w.heap.size #[.int .u8 5, .int .u64 ST, .int .u64 CM, .slice aw ws.length cw, .slice ak ks.length ck, .slice an NS.length cn, .slice ag GS.length cg, .slice al LS.length cl, .bool false] wr) (fun i _ => ws.length - (intOf i).toNat)
    case atStart => exact ⟨0, Nat.zero_le _, rfl, HB.out⟩
    case round =>
      obtain ⟨k, hk, rfl, hB⟩ := hrel
      have m2 := hB.1
      have hfr := hB.2.2
      have HB2 := Lib.hid hB
      clear hB
      by_cases hlt : k < ws.length
      · obtain rfl := h3 (by omega)
        obtain ⟨c0, c1, c2, c3, c4, c5, c6, c7⟩ := wr_cells (W := w) (HC.out k hlt)
        replace c1 := hfr.cell id c1; replace c2 := hfr.cell id c2; replace c3 := hfr.cell id c3
        replace c4 := hfr.cell id c4; replace c5 := hfr.cell id c5; replace c6 := hfr.cell id c6; replace c7 := hfr.cell id c7
        have hm0 := HOK.out ws[k] (List.getElem_mem hlt)
        have hcall := fun W => r4May_any ws[k] W
        rw [hm0] at hcall
        obtain ⟨x, hx⟩ : ∃ x, ws[k] = x := ⟨_, rfl⟩
        simp only [hx] at c1 c2 c3 c4 c5 c6 c7 hcall
        obtain ⟨xd, xu, xp, vk, vb, vn, vs, vu⟩ := x
        unfold Wr.tenc at hcall
        simp only at c1 c2 c3 c4 c5 c6 c7 hcall
        have hki : (k : Int) < (ws.length : Int) := by omega
        have HX := Lib.hid hcall
        clear hcall hx hm0 c0
        go_wp2_with (go_at_call 48; go_loud (refine (HX.out _).mono ?_); rintro e w3 ⟨rfl, hf3⟩)
        go_roundw
        case rel => exact ⟨k + 1, by omega, by go_num, boxS_keep hf3 HB2.out⟩
        case measure => simp [intOf]; omega
      · clear h3
        go_wp2_with (first
            | (go_at_call 49; go_loud (refine (HR.out _ HB2.out.2.2).mono ?_); rintro e w3 ⟨rfl, hf3⟩; have hB3 := boxS_keep hf3 HB2.out; have m3 := hB3.1; have HB3 := Lib.hid hB3; clear hB3)
            | (go_at_call 50; go_loud (refine (HS.out _ HB3.out.2.2 _ _ _ _ _ rfl).mono ?_); rintro e w4 ⟨rfl, hf4⟩; have hB4 := boxS_keep hf4 HB3.out; have m4 := hB4.1; have HB4 := Lib.hid hB4; clear hB4))
        all_goals
          go_ret
          exact ⟨rfl, HB4.out.2.2⟩

set_option maxRecDepth 100000 in
set_option maxHeartbeats 4000000 in
theorem rMay_p6 (w : World) (v : Value) (t : Txn) (h : IsTxn w v t) (hv : Inv t) (hp : t.phase = 6) : Calls Tryz.prog 16 #[v] w fun e w' => e = .returned (.bool true) ∧ Fr N0 w w' := by
  have hK := fun W (hf : Fr N0 w W) => rising_call h hf hv
  have hS := fun W (hf : Fr N0 w W) => some_call h hf hv
  obtain ⟨vw, vk, vn, vg, vl, rfl, h⟩ := h
  obtain ⟨⟨ak, ck, rfl⟩, ⟨an, cn, rfl⟩, ⟨ag, cg, rfl⟩, ⟨al, cl, rfl⟩⟩ := h.shapes.2
  obtain ⟨bw, aw, offw, cw, rfl, h1, h2, h3, -, h5⟩ := h.ws
  clear h
  have hfew := hv.few
  have hok := hv.may
  have hkw : decide (0 < t.keys.length) = decide (0 < t.writes.length) := by
    have h1 := hv.keyed
    cases hk : t.keys <;> cases hw : t.writes <;> simp_all
  have hkw2 : ((t.keys.length : Int) == 0) = ((t.writes.length : Int) == 0) := len0_eq hv
  have hst : (t.start == 0) = false := beq_eq_false_iff_ne.2 fun h => by have := hv.start.1 h; omega
  have hns := hv.still (by omega) (by omega) (by omega)
  have hll := hv.none_ (by omega) (by omega)
  have hfl := hv.failed (by omega) (by omega)
  have hend : t.writes ≠ [] → (t.commit == 0 || decide (t.start < t.commit)) = true := fun h => by
    have := hv.ended (.inr ⟨hp, h⟩)
    rw [Bool.or_eq_true, decide_eq_true_eq, beq_iff_eq]; exact this
  have hread : t.writes = [] → (t.commit == 0 || t.commit == t.start) = true := fun h => by
    have := hv.read hp h
    rw [Bool.or_eq_true, beq_iff_eq, beq_iff_eq]; exact this
  clear hv
  obtain ⟨PH, ST, CM, ws, ks, NS, GS, LS, FL⟩ := t
  simp only at *
  subst hp
  obtain ⟨rfl, rfl⟩ := hns
  subst hll
  subst hfl
  have HC := Lib.hid h5; have HOK := Lib.hid hok; have HK := Lib.hid hK; have HS := Lib.hid hS
  clear h5 hok hK hS
  have hl1 : decide ((256 : Int) < (ws.length : Int)) = false := decide_eq_false (by omega)
  have hl2 : decide (256 < ws.length) = false := decide_eq_false (by omega)
  have hsp : (((ws.length : Int) == 0) = true ∧ ((CM == 0) = true ∨ (CM == 0) = false ∧ (CM == ST) = true)) ∨ (((ws.length : Int) == 0) = false ∧ ((CM == 0) = true ∨ (CM == 0) = false ∧ decide (ST < CM) = true)) := by
    cases hq : ((ws.length : Int) == 0)
    · have := hend (fun h => by rw [h] at hq; simp at hq)
      refine .inr ⟨rfl, ?_⟩
      cases hc : (CM == 0)
      · rw [hc] at this; exact .inr ⟨rfl, by simpa using this⟩
      · exact .inl rfl
    · have := hread (List.eq_nil_of_length_eq_zero (by have := eq_of_beq hq; omega))
      refine .inl ⟨rfl, ?_⟩
      cases hc : (CM == 0)
      · rw [hc] at this; exact .inr ⟨rfl, by simpa using this⟩
      · exact .inl rfl
  clear hend hread
  rcases hsp with ⟨hq, hd | ⟨hd, hd2⟩⟩ | ⟨hq, hd | ⟨hd, hd2⟩⟩
  all_goals
    rw [hq] at hkw2
    go_enter Tryz.func16, Tryz.ntmps16
    go_wp2_with (go_at_call 47; go_loud (refine (HK.out _ ((Fr.refl _ _).alloc _) _ _ _ _ _ rfl).mono ?_); rintro e w1 ⟨rfl, hf1⟩; have hB1 := boxS_keep hf1 (boxS_new w _ _); have m1 := hB1.1; have HB := Lib.hid hB1; clear hB1)
    go_loopw [3] (fun i wr => ∃ k : Nat, k ≤ ws.length ∧ i = .int .i64 k ∧ BoxS w w.heap.size #[.int .u8 6, .int .u64 ST, .int .u64 CM, .slice aw ws.length cw, .slice ak ks.length ck, .slice an 0 cn, .slice ag 0 cg, .slice al 0 cl, .bool false] wr) (fun i _ => ws.length - (intOf i).toNat)
    case atStart => exact ⟨0, Nat.zero_le _, rfl, HB.out⟩
    case round =>
      obtain ⟨k, hk, rfl, hB⟩ := hrel
      have m2 := hB.1
      have hfr := hB.2.2
      have HB2 := Lib.hid hB
      clear hB
      by_cases hlt : k < ws.length
      · obtain rfl := h3 (by omega)
        obtain ⟨c0, c1, c2, c3, c4, c5, c6, c7⟩ := wr_cells (W := w) (HC.out k hlt)
        replace c1 := hfr.cell id c1; replace c2 := hfr.cell id c2; replace c3 := hfr.cell id c3
        replace c4 := hfr.cell id c4; replace c5 := hfr.cell id c5; replace c6 := hfr.cell id c6; replace c7 := hfr.cell id c7
        have hm0 := HOK.out ws[k] (List.getElem_mem hlt)
        have hcall := fun W => r4May_any ws[k] W
        rw [hm0] at hcall
        obtain ⟨x, hx⟩ : ∃ x, ws[k] = x := ⟨_, rfl⟩
        simp only [hx] at c1 c2 c3 c4 c5 c6 c7 hcall
        obtain ⟨xd, xu, xp, vk, vb, vn, vs, vu⟩ := x
        unfold Wr.tenc at hcall
        simp only at c1 c2 c3 c4 c5 c6 c7 hcall
        have hki : (k : Int) < (ws.length : Int) := by omega
        have HX := Lib.hid hcall
        clear hcall hx hm0 c0
        go_wp2_with (go_at_call 48; go_loud (refine (HX.out _).mono ?_); rintro e w3 ⟨rfl, hf3⟩)
        go_roundw
        case rel => exact ⟨k + 1, by omega, by go_num, boxS_keep hf3 HB2.out⟩
        case measure => simp [intOf]; omega
      · clear h3
        go_wp2_with (first
            | (go_at_call 50; go_loud (refine (HS.out _ HB2.out.2.2 _ _ _ _ _ rfl).mono ?_); rintro e w4 ⟨rfl, hf4⟩; have hB4 := boxS_keep hf4 HB2.out; have m4 := hB4.1; have HB4 := Lib.hid hB4; clear hB4))
        all_goals
          go_ret
          exact ⟨rfl, HB4.out.2.2⟩

theorem rMay_any (w : World) (v : Value) (t : Txn) (h : IsTxn w v t) (hv : Inv t) : Calls Tryz.prog 16 #[v] w fun e w' => e = .returned (.bool true) ∧ Fr N0 w w' := by
  have hph : t.phase = 1 ∨ t.phase = 2 ∨ t.phase = 3 ∨ t.phase = 4 ∨ t.phase = 5 ∨ t.phase = 6 := by have := hv.phase; omega
  rcases hph with hp | hp | hp | hp | hp | hp
  · exact rMay_p1 w v t h hv hp
  · exact rMay_p2 w v t h hv hp
  · exact rMay_p3 w v t h hv hp
  · exact rMay_p4 w v t h hv hp
  · exact rMay_p5 w v t h hv hp
  · exact rMay_p6 w v t h hv hp

end Go.Proofs.YthidminepegnoaaGreatDoor
