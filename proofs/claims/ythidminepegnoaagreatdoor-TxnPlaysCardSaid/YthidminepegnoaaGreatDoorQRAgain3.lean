/- The document's own: the writes of a group's predicates. What is outstanding: the document's Again. .. of a transaction whose writes are to be staged. -/
import Derived.Deep.RegionLaw
import Derived.Deep.AppendLies
import Derived.StillTailTactics
import Derived.Deep.RegionHeld3
import Derived.Test.YthidminepegnoaaGreatDoorQLoops
import Derived.Test.YthidminepegnoaaGreatDoorQRMay
import Derived.Test.YthidminepegnoaaGreatDoorQStepS
import Derived.Test.YthidminepegnoaaGreatDoorQAgain
import Derived.Test.YthidminepegnoaaGreatDoorQBegin
namespace Go.Proofs.YthidminepegnoaaGreatDoor
open Go.RowKit Go.Shelf Go.Maps Go.Sort
attribute [local go_sem] Oper.semAt_some
attribute [local irreducible] wpQuiet
set_option linter.unusedVariables false
set_option linter.unusedSimpArgs false

/-- Does a need name a write's predicate and a group? -/
def fitsB (x : Wr) (g : Int) (s : Rt) : Bool := decide (s.pred = x.pred) && decide (s.group = g)
theorem fit_count (x : Wr) (g : Int) : ∀ {ns : List Rt}, (ns.map (·.pred)).Nodup → ns.countP (fitsB x g) = if ns.any (fitsB x g) then 1 else 0
  | [], _ => rfl
  | s :: ns, hd => by
    rw [List.map_cons] at hd
    have hd' := List.nodup_cons.1 hd
    rw [List.countP_cons, List.any_cons, fit_count x g hd'.2]
    cases h : fitsB x g s
    · simp
    · have : ns.any (fitsB x g) = false := by
        rw [List.any_eq_false]
        intro r hr h2
        simp only [fitsB, Bool.and_eq_true, decide_eq_true_eq] at h h2
        exact hd'.1 (List.mem_map.2 ⟨r, hr, by rw [h2.1, h.1]⟩)
      rw [this]; rfl
theorem normS_nodup (l : List ByteArray) : (normS l).Nodup := by
  have h1 : (normL l).Nodup := (normL_rises l).1.imp fun {a b} h e => by subst e; exact List.lt_irrefl a h
  rw [normS]
  refine List.pairwise_map.2 (h1.imp fun {a b} h e => h ?_)
  simpa [mkS] using e
theorem snocs {α : Type} (A : List α) (n : Nat) (x : α) : A ++ List.replicate (n + 1) x = (A ++ List.replicate n x) ++ [x] := by
  rw [List.replicate_succ', List.append_assoc]

theorem boxS_grown {W0 W W' : World} {B : Nat} {cs : Array Value} {row : Option Nat} (h : BoxS W0 B cs W) (hg : W.grownBy W' row) (hne : ∀ q, row = some q → B < q) (hB : W0.heap.size ≤ B) : BoxS W0 B cs W' :=
  ⟨fun i => (cell_same (p := ⟨B, i, none⟩) (hg.block B h.2.1 (fun e => by have := hne B e.symm; omega))).trans (h.1 i), Nat.lt_of_lt_of_le h.2.1 hg.size, h.2.2.grown hg fun q e => .inr (by have := hne q e; omega)⟩

set_option maxRecDepth 100000 in
set_option maxHeartbeats 4000000 in
theorem rown_any (w : World) (v : Value) (t : Txn) (h : IsTxn w v t) (hv : Inv t) (hr : RoutesOk t) (g : Int) :
    Calls Tryz.prog 34 #[v, .int .u32 g] w fun e w' => ∃ vw b, e = .returned vw ∧ w.heap.size ≤ b ∧ Wrs w' b vw (ownOf t g) ∧ Fr N0 w w' := by
  obtain ⟨i0, hi, hz0, hz1, hz2⟩ := info_parts infoWr
  have hwf := hv.few
  have hnf := hr.few
  have hnd : (t.needs.map (·.pred)).Nodup := by rw [hr.same]; exact normS_nodup _
  have hown : ownOf t g = t.writes.filter fun x => t.needs.any (fitsB x g) := rfl
  obtain ⟨vw, vk, vn, vg, vl, rfl, h⟩ := h
  obtain ⟨⟨aw0, cw0, rfl⟩, ⟨ak, ck, rfl⟩, ⟨an0, cn0, rfl⟩, ⟨ag, cg, rfl⟩, ⟨al, cl, rfl⟩⟩ := h.shapes
  obtain ⟨bw, aw, offw, cw, ew, w1, w2, w3, -, w5⟩ := h.ws
  obtain ⟨bn, an, offn, cn, en, n1, n2, n3, -, n5⟩ := h.ns
  simp only [Value.slice.injEq] at ew en
  obtain ⟨rfl, -, rfl⟩ := ew
  obtain ⟨rfl, -, rfl⟩ := en
  obtain ⟨OW, hOW⟩ : ∃ O, ownOf t g = O := ⟨_, rfl⟩
  rw [hOW] at hown ⊢
  obtain ⟨ph, st, cm, ws, ks, ns, gs, ls, fl⟩ := t
  simp only at *
  have HC := Lib.hid w5; have HN := Lib.hid n5; have HND := Lib.hid hnd; have HOW := Lib.hid hown
  clear w5 n5 h hv hr hnd hown hOW
  go_enter Tryz.func34, Tryz.ntmps34
  go_wp2
  have hB0 := boxS_new w #[.int .u8 ph, .int .u64 st, .int .u64 cm, .slice aw0 ws.length cw0, .slice ak ks.length ck, .slice an0 ns.length cn0, .slice ag gs.length cg, .slice al ls.length cl, .bool fl] 32
  have HB0 := Lib.hid hB0
  clear hB0
  go_loopw [5, 6] (fun o iv wr => ∃ k n : Nat, k ≤ ws.length ∧ n ≤ k ∧ iv = .int .i64 k ∧ wr.ownsRow (w.heap.size + 1) 65 8 o n (((ws.take k).filter fun x => ns.any (fitsB x g)).flatMap Wr.enc) ∧ Hid (((ws.take k).filter fun x => ns.any (fitsB x g)).length = n) ∧
      BoxS w w.heap.size #[.int .u8 ph, .int .u64 st, .int .u64 cm, .slice aw0 ws.length cw0, .slice ak ks.length ck, .slice an0 ns.length cn0, .slice ag gs.length cg, .slice al ls.length cl, .bool fl] wr) (fun _ iv _ => ws.length - (intOf iv).toNat)
  case atStart => exact ⟨0, 0, Nat.zero_le _, Nat.le_refl _, by go_num, World.ownsRow_nil _ _ _ _, rfl, HB0.out⟩
  case round =>
    obtain ⟨k, n, hk, hnk, rfl, hrow, hlen, hB⟩ := hrel
    have m2 := hB.1
    have hfr := hB.2.2
    have HB := Lib.hid hB
    clear hB
    by_cases hlt : k < ws.length
    · obtain rfl := w3 (by omega)
      obtain ⟨c0, c1, c2, c3, c4, c5, c6, c7⟩ := wr_cells (W := w) (HC.out k hlt)
      have hki : (k : Int) < (ws.length : Int) := by omega
      have htk : (ws.take (k + 1)).filter (fun x => ns.any (fitsB x g)) = (ws.take k).filter (fun x => ns.any (fitsB x g)) ++ List.replicate (ns.countP (fitsB ws[k] g)) ws[k] := by
        rw [List.take_succ_eq_append_getElem hlt, List.filter_append, fit_count _ _ HND.out]
        cases h : ns.any (fitsB ws[k] g) <;> simp [h]
      obtain ⟨x, hx⟩ : ∃ x, ws[k] = x := ⟨_, rfl⟩
      simp only [hx] at c0 c1 c2 c3 c4 c5 c6 c7 htk
      obtain ⟨A, hA⟩ : ∃ A, (ws.take k).filter (fun x => ns.any (fitsB x g)) = A := ⟨_, rfl⟩
      rw [hA] at htk hrow hlen
      have hcnt : ns.countP (fitsB x g) ≤ ns.length := List.countP_le_length
      have HTK := Lib.hid htk; have HROW := Lib.hid hrow; have HX := Lib.hid hx; have HA := Lib.hid hA
      have hcc : ∀ (i : Nat) (u : Value), w.cell? ⟨bw, i, none⟩ = some u → ∀ W, Fr N0 w W → W.cell? ⟨bw, i, none⟩ = some u := fun i u hu W hf => hf.cell (p := ⟨bw, i, none⟩) id hu
      have HCC := Lib.hid (hcc _ _ c0); have HC1 := Lib.hid (hcc _ _ c1); have HC2 := Lib.hid (hcc _ _ c2); have HC3 := Lib.hid (hcc _ _ c3); have HC4 := Lib.hid (hcc _ _ c4); have HC5 := Lib.hid (hcc _ _ c5); have HC6 := Lib.hid (hcc _ _ c6); have HC7 := Lib.hid (hcc _ _ c7)
      clear htk hrow hx hA hcc c0 c1 c2 c3 c4 c5 c6 c7
      go_wp2
      clear m2
      have HB2 := Lib.hid HB.out
      obtain ⟨wA, rfl⟩ : ∃ wA, wA = wr := ⟨_, rfl⟩
      clear hfr
      go_loopw [5, 7] (fun ov jv wq => ∃ m c : Nat, m ≤ ns.length ∧ c ≤ m ∧ jv = .int .i64 m ∧ wq.ownsRow (w.heap.size + 1) 65 8 ov (n + c) ((A ++ List.replicate c x).flatMap Wr.enc) ∧ Hid ((ns.take m).countP (fitsB x g) = c) ∧
          BoxS w w.heap.size #[.int .u8 ph, .int .u64 st, .int .u64 cm, .slice (some ⟨bw, offw, none⟩) ws.length cw0, .slice ak ks.length ck, .slice an0 ns.length cn0, .slice ag gs.length cg, .slice al ls.length cl, .bool fl] wq) (fun _ jv _ => ns.length - (intOf jv).toNat)
      case atStart => exact ⟨0, 0, Nat.zero_le _, Nat.le_refl _, rfl, by simpa using HROW.out, rfl, HB2.out⟩
      case round =>
        obtain ⟨m, c, hm, hcm, rfl, hrow, hct, hB⟩ := hrel
        have m2 := hB.1
        have hfr := hB.2.2
        have hwz := hB.2.1
        have HB3 := Lib.hid hB
        clear hB
        by_cases hlm : m < ns.length
        · obtain rfl := n3 (by omega)
          obtain ⟨d0, d1, d2⟩ := rt_cells (W := w) (HN.out m hlm)
          have hmi : (m : Int) < (ns.length : Int) := by omega
          have hct2 : (ns.take (m + 1)).countP (fitsB x g) = c + if fitsB x g ns[m] = true then 1 else 0 := by
            rw [List.take_succ_eq_append_getElem hlm, List.countP_append, hct.out, List.countP_singleton]
          obtain ⟨s, hs⟩ : ∃ s, ns[m] = s := ⟨_, rfl⟩
          simp only [hs] at d0 d1 d2 hct2
          replace d0 := hfr.cell id d0; replace d1 := hfr.cell id d1
          have e0 := HCC.out _ hfr; have e1 := HC1.out _ hfr; have e2 := HC2.out _ hfr; have e3 := HC3.out _ hfr; have e4 := HC4.out _ hfr; have e5 := HC5.out _ hfr; have e6 := HC6.out _ hfr; have e7 := HC7.out _ hfr
          obtain ⟨xd, xu, xp, vk, vb, vn, vs, vu⟩ := x
          obtain ⟨sp, sg, stn⟩ := s
          simp only at d0 d1 e0 e1 e2 e3 e4 e5 e6 e7
          have hfit : fitsB ⟨xd, xu, xp, ⟨vk, vb, vn, vs, vu⟩⟩ g ⟨sp, sg, stn⟩ = ((sp.toList == xp.toList) && (sg == g)) := by
            rw [beq_toList]; rfl
          rw [hfit] at hct2
          have hcs : ((sp.toList == xp.toList) = false) ∨ ((sp.toList == xp.toList) = true ∧ (sg == g) = false) ∨ ((sp.toList == xp.toList) = true ∧ (sg == g) = true) := by
            cases (sp.toList == xp.toList) <;> cases (sg == g) <;> simp
          have HR := Lib.hid hrow; have HCT := Lib.hid hct2
          have HLT := Lib.hid fun q e => (hrow.lt q e).1
          clear hrow hct2 hs hfit hct d2
          rcases hcs with h1 | ⟨h1, h2⟩ | ⟨h1, h2⟩
          · have hq := HCT.out; rw [h1] at hq; have HQ := Lib.hid hq; clear hq
            go_wp2
            all_goals try (go_quiet (fail); go_wp2)
            all_goals
              go_roundw
              case rel => exact ⟨m + 1, c, by omega, by omega, by go_num, HR.out, (show _ = _ by simpa using HQ.out), boxS_keep ((Fr.refl _ _).drewN _) HB3.out⟩
              case measure => simp [intOf]; omega
          · have hq := HCT.out; rw [h1, h2] at hq; have HQ := Lib.hid hq; clear hq
            go_wp2
            all_goals try (go_quiet (fail); go_wp2)
            all_goals
              go_roundw
              case rel => exact ⟨m + 1, c, by omega, by omega, by go_num, HR.out, (show _ = _ by simpa using HQ.out), boxS_keep ((Fr.refl _ _).drewN _) HB3.out⟩
              case measure => simp [intOf]; omega
          · have hq := HCT.out; rw [h1, h2] at hq; have HQ := Lib.hid hq; clear hq
            go_wp2
            go_quiet (fail)
            go_wp2_with (at_builtin; go_loud (refine wpList_append_lies _ rfl _ _ 27 rfl (w.heap.size + 1) 65 i0 (zeroWrV) 8 72 Tryz.underlying27 hi hz0 hz1 hz2 rfl (by decide) (u5) (n + c) _ rfl (HR.out.alloc _) ⟨wr.heap.size, 0, none⟩ 1 1 ([.bool xd, .int .u64 xu, .string xp, .int .u8 vk, .bool vb, .int .i64 vn, .string vs, .int .u64 vu]) rfl rfl (World.news_of_block (cs := ([.bool xd, .int .u64 xu, .string xp, .int .u8 vk, .bool vb, .int .i64 vn, .string vs, .int .u64 vu]).toArray) (t := 65) (fr := (0, 0)) (heap_alloc_new wr _)) (by simp [Value.oneCell']) (by omega) (by unfold maxLen; omega) (by omega) (by simp; omega) (wr.heap.size + 1) (by simp) ?_); intro g2 gc w5 hown hgrow hfresh hlt1)
            go_roundw
            case rel =>
              refine ⟨m + 1, c + 1, by omega, by omega, by go_num, ?_, (show _ = _ by simpa using HQ.out), boxS_grown (boxS_keep (((Fr.refl _ _).drewN _).alloc _) HB3.out) hgrow (fun q e => by have := HLT.out q e; omega) (Nat.le_refl _)⟩
              rw [snocs, flat_snoc]
              exact hown
            case measure => simp [intOf]; omega
        · obtain rfl : m = ns.length := by omega
          have hfin := hct.out
          rw [List.take_length] at hfin
          have HFIN := Lib.hid hfin; have HR := Lib.hid hrow
          clear hfin hrow hct
          go_wp2
          go_roundw
          case rel =>
            refine ⟨k + 1, n + c, by omega, ?_, by go_num, by rw [HTK.out, HFIN.out]; exact HR.out, ?_, HB3.out⟩
            · have h1 := fit_count x g HND.out
              rw [HFIN.out] at h1
              split at h1 <;> omega
            · show _ = n + c
              rw [HTK.out, HFIN.out, List.length_append, hlen.out, List.length_replicate]
          case measure => simp [intOf]; omega
    · obtain rfl : k = ws.length := by omega
      rw [List.take_length] at hrow hlen
      have hl := hlen.out
      rw [← HOW.out] at hrow hl
      rw [← hl] at hrow
      obtain ⟨bb, hbb, hrows⟩ := rowsK_of_row (enc := Wr.enc) (n := 8) (fun _ => rfl) (by decide) hrow
      have HR := Lib.hid hrows; have HF := Lib.hid hfr
      clear hrow hrows hfr hl hlen
      go_wp2
      go_ret
      exact ⟨_, bb, rfl, by omega, HR.out, HF.out⟩

end Go.Proofs.YthidminepegnoaaGreatDoor
namespace Go.Proofs.YthidminepegnoaaGreatDoor
open Go.RowKit Go.Shelf Go.Maps Go.Sort
attribute [local go_sem] Oper.semAt_some
attribute [local irreducible] wpQuiet
set_option linter.unusedVariables false
set_option linter.unusedSimpArgs false

abbrev RAgainPost (w : World) (t : Txn) : Ending → World → Prop := fun e w' => ∃ v', e = .returned v' ∧ Outs w' v' (again t) ∧ Fr N0 w w'


set_option maxRecDepth 100000 in
set_option maxHeartbeats 4000000 in
theorem rAgain_p2 (w : World) (v : Value) (t : Txn) (h : IsTxn w v t) (hv : Inv t) (hp : t.phase = 2 ∨ t.phase = 6) : Calls Tryz.prog 10 #[v] w (RAgainPost w t) := by
  have hM := fun W (hf : Fr N0 w W) => rMay_any W v t (h.fr0 hf) hv
  have hag : again t = [] := by unfold again; rw [if_neg (by omega), if_neg (by omega), if_neg (by omega), if_neg (by omega)]
  unfold RAgainPost
  rw [hag]
  obtain ⟨vw, vk, vn, vg, vl, rfl, h⟩ := h
  obtain ⟨ph, st, cm, ws, ks, ns, gs, ls, fl⟩ := t
  simp only at hp hM ⊢
  have HM := Lib.hid hM
  clear hM h hv hag
  rcases hp with hp | hp
  all_goals
    subst hp
    go_enter Tryz.func10, Tryz.ntmps10
    go_wp2_with (go_at_call 16; go_loud (refine (HM.out _ ((Fr.refl _ _).alloc _)).mono ?_); rintro e w1 ⟨rfl, hf1⟩; have hB1 := boxS_keep hf1 (boxS_new w _ _); have HB := Lib.hid hB1; obtain ⟨m1, m2, m3⟩ := boxS_facts hB1; clear hB1)
    go_ret
    exact ⟨_, rfl, outs_nil _, HB.out.2.2⟩

set_option maxRecDepth 100000 in
set_option maxHeartbeats 4000000 in
theorem rAgain_p1 (w : World) (v : Value) (t : Txn) (h : IsTxn w v t) (hv : Inv t) (hp : t.phase = 1) : Calls Tryz.prog 10 #[v] w (RAgainPost w t) := by
  have hM := fun W (hf : Fr N0 w W) => rMay_any W v t (h.fr0 hf) hv
  have hag : again t = [{ okind := 1, n := 1 }] := by unfold again; rw [if_pos hp]
  unfold RAgainPost
  rw [hag]
  obtain ⟨vw, vk, vn, vg, vl, rfl, h⟩ := h
  obtain ⟨ph, st, cm, ws, ks, ns, gs, ls, fl⟩ := t
  simp only at hp hM ⊢
  have HM := Lib.hid hM
  clear hM h hv hag
  subst hp
  go_enter Tryz.func10, Tryz.ntmps10
  go_wp2_with (go_at_call 16; go_loud (refine (HM.out _ ((Fr.refl _ _).alloc _)).mono ?_); rintro e w1 ⟨rfl, hf1⟩; have hB1 := boxS_keep hf1 (boxS_new w _ _); have HB := Lib.hid hB1; obtain ⟨m1, m2, m3⟩ := boxS_facts hB1; clear hB1)
  go_ret
  exact ⟨_, rfl, outs_one (r := ⟨0, 1, 1, 0, .slice none 0 0, .slice none 0 0, 0, 0, 0, .slice none 0 0⟩) (World.alloc_heap_new _ _) ⟨⟨rfl, rfl, rfl, rfl, rfl, rfl, rfl⟩, ⟨0, Strs.nil _ _⟩, ⟨0, RowsK.nil _ _ _ _⟩, ⟨0, RowsK.nil _ _ _ _⟩⟩, HB.out.2.2.alloc _⟩

set_option maxRecDepth 100000 in
set_option maxHeartbeats 4000000 in
theorem rAgain_p4f (w : World) (v : Value) (t : Txn) (h : IsTxn w v t) (hv : Inv t) (hp : t.phase = 4) (hf : t.failed = true) : Calls Tryz.prog 10 #[v] w (RAgainPost w t) := by
  have hM := fun W (hf : Fr N0 w W) => rMay_any W v t (h.fr0 hf) hv
  have hag : again t = [{ okind := 4, ostart := t.start }] := by unfold again; rw [if_neg (by omega), if_neg (by omega), if_pos hp, if_pos hf]
  unfold RAgainPost
  rw [hag]
  obtain ⟨vw, vk, vn, vg, vl, rfl, h⟩ := h
  obtain ⟨ph, st, cm, ws, ks, ns, gs, ls, fl⟩ := t
  simp only at hp hM hf ⊢
  have HM := Lib.hid hM
  clear hM h hv hag
  subst hp; subst hf
  go_enter Tryz.func10, Tryz.ntmps10
  go_wp2_with (go_at_call 16; go_loud (refine (HM.out _ ((Fr.refl _ _).alloc _)).mono ?_); rintro e w1 ⟨rfl, hf1⟩; have hB1 := boxS_keep hf1 (boxS_new w _ _); have HB := Lib.hid hB1; obtain ⟨m1, m2, m3⟩ := boxS_facts hB1; clear hB1)
  go_ret
  exact ⟨_, rfl, outs_one (r := ⟨0, 4, 0, st, .slice none 0 0, .slice none 0 0, 0, 0, 0, .slice none 0 0⟩) (World.alloc_heap_new _ _) ⟨⟨rfl, rfl, rfl, rfl, rfl, rfl, rfl⟩, ⟨0, Strs.nil _ _⟩, ⟨0, RowsK.nil _ _ _ _⟩, ⟨0, RowsK.nil _ _ _ _⟩⟩, HB.out.2.2.alloc _⟩

set_option maxRecDepth 100000 in
set_option maxHeartbeats 4000000 in
theorem rAgain_p4 (w : World) (v : Value) (t : Txn) (h : IsTxn w v t) (hv : Inv t) (hp : t.phase = 4) (hf : t.failed = false) : Calls Tryz.prog 10 #[v] w (RAgainPost w t) := by
  have hM := fun W (hf : Fr N0 w W) => rMay_any W v t (h.fr0 hf) hv
  have hag : again t = [{ okind := 3, ostart := t.start, okeys := t.keys, oneeds := t.needs.map fun r => ⟨r.pred, r.turn⟩ }] := by unfold again; rw [if_neg (by omega), if_neg (by omega), if_pos hp, if_neg (by rw [hf]; decide)]
  unfold RAgainPost
  rw [hag]
  obtain ⟨vw, vk, vn, vg, vl, rfl, h⟩ := h
  obtain ⟨⟨aw, cw, rfl⟩, ⟨ak, ck, rfl⟩, ⟨an, cn, rfl⟩, ⟨ag, cg, rfl⟩, ⟨al, cl, rfl⟩⟩ := h.shapes
  obtain ⟨ph, st, cm, ws, ks, ns, gs, ls, fl⟩ := t
  simp only at hp hM hf ⊢
  obtain ⟨bk, hk⟩ := h.ks
  obtain ⟨bn, hn⟩ := h.ns
  have hfn := (hv.moving (by simp only; omega)).few
  simp only at hk hn hfn
  obtain ⟨an', offn, capn, en, n1, n2, n3, -, n5⟩ := hn
  simp only [Value.slice.injEq] at en
  obtain ⟨rfl, -, rfl⟩ := en
  have HM := Lib.hid hM; have HK := Lib.hid hk; have HC := Lib.hid n5
  clear hM h hv hag hk n5
  subst hp; subst hf
  obtain ⟨i0, hi, hz0, hz1, hz2⟩ := info_parts infoNd
  go_enter Tryz.func10, Tryz.ntmps10
  go_wp2_with (go_at_call 16; go_loud (refine (HM.out _ ((Fr.refl _ _).alloc _)).mono ?_); rintro e w1 ⟨rfl, hf1⟩; have hB1 := boxS_keep hf1 (boxS_new w _ _); have HB := Lib.hid hB1; obtain ⟨m1, m2, m3⟩ := boxS_facts hB1; clear hB1)
  have hB3 := boxS_keep ((Fr.refl _ _).alloc (.cells #[.int .u8 3, .int .u32 0, .int .u64 st, .slice ak ks.length ck, .slice none 0 0, .string ⟨#[]⟩, .int .u32 0, .int .u32 0, .int .u64 0] 82)) HB.out
  have hb3 := World.alloc_heap_new w1 (.cells #[.int .u8 3, .int .u32 0, .int .u64 st, .slice ak ks.length ck, .slice none 0 0, .string ⟨#[]⟩, .int .u32 0, .int .u32 0, .int .u64 0] 82)
  have hw1z := HB.out.2.1
  have hz3 : (w1.alloc (.cells #[.int .u8 3, .int .u32 0, .int .u64 st, .slice ak ks.length ck, .slice none 0 0, .string ⟨#[]⟩, .int .u32 0, .int .u32 0, .int .u64 0] 82)).heap.size = w1.heap.size + 1 := by simp
  obtain ⟨W3, hW3⟩ : ∃ W, w1.alloc (.cells #[.int .u8 3, .int .u32 0, .int .u64 st, .slice ak ks.length ck, .slice none 0 0, .string ⟨#[]⟩, .int .u32 0, .int .u32 0, .int .u64 0] 82) = W := ⟨_, rfl⟩
  rw [hW3] at hB3 hb3 hz3 ⊢
  have HBT := Lib.hid hB3; have HB3 := Lib.hid hb3; have HZ := Lib.hid hz3
  clear hW3 hb3 hB3 hz3 m1 m2 m3 HB hf1 HM
  go_loopw [6] (fun iv wr => ∃ (k : Nat) (ao : Option Addr) (co : Nat), k ≤ ns.length ∧ iv = .int .i64 k ∧ Hid (wr.heap[w1.heap.size]? = some (.cells #[.int .u8 3, .int .u32 0, .int .u64 st, .slice ak ks.length ck, .slice ao k co, .string ⟨#[]⟩, .int .u32 0, .int .u32 0, .int .u64 0] 82 (0, 0))) ∧
      wr.ownsRow (w1.heap.size + 1) 97 2 (.slice ao k co) k (((ns.take k).map fun r => (⟨r.pred, r.turn⟩ : Nd)).flatMap Nd.enc) ∧ Fr (fun b => b = w1.heap.size) W3 wr) (fun iv _ => ns.length - (intOf iv).toNat)
  case atStart => exact ⟨0, none, 0, Nat.zero_le _, rfl, HB3.out, World.ownsRow_nil _ _ _ _, Fr.refl _ _⟩
  case round =>
    obtain ⟨k, ao, co, hk, rfl, hbo, hrow, hfr⟩ := hrel
    have hwsz := hfr.size
    have hbl := lt_of_block hbo.out
    have HBO := Lib.hid hbo.out
    obtain ⟨mb, -, -⟩ := box_cells hbo.out
    have hmt : ∀ i, wr.cell? ⟨w.heap.size, i, none⟩ = _ := fun i => (cell_same (p := ⟨w.heap.size, i, none⟩) (hfr.at (k := w.heap.size) (by show ¬ w.heap.size = w1.heap.size; omega) HBT.out.2.1)).trans (HBT.out.1 i)
    have hfw := HBT.out.2.2
    clear hbo
    by_cases hlt : k < ns.length
    · obtain rfl := n3 (by omega)
      have hc := HC.out k hlt
      have hbn : bn < w.heap.size := lt_of_cell (p := ⟨bn, offn + k * 3 + 0, none⟩) (hc 0 (by omega))
      have hts : ((ns.take (k + 1)).map fun r => (⟨r.pred, r.turn⟩ : Nd)).flatMap Nd.enc = ((ns.take k).map fun r => (⟨r.pred, r.turn⟩ : Nd)).flatMap Nd.enc ++ [.string ns[k].pred, .int .u64 ns[k].turn] := by
        rw [List.take_succ_eq_append_getElem hlt, List.map_append, List.map_cons, List.map_nil, flat_snoc]; rfl
      obtain ⟨x, hx⟩ : ∃ x, ns[k] = x := ⟨_, rfl⟩
      simp only [hx] at hts hc
      obtain ⟨c0, c1, c2⟩ := rt_cells (W := w) hc
      have hcc : ∀ (i : Nat) (u : Value), w.cell? ⟨bn, i, none⟩ = some u → wr.cell? ⟨bn, i, none⟩ = some u := fun i u hu => hfr.cell (p := ⟨bn, i, none⟩) (by show ¬ bn = _; omega) (hfw.cell id hu)
      replace c0 := hcc _ _ c0; replace c2 := hcc _ _ c2
      obtain ⟨xp, xg, xt⟩ := x
      simp only at hts c0 c2
      have hki : (k : Int) < (ns.length : Int) := by omega
      have hnb : (Value.slice ao k co).ownBlock ≠ some w1.heap.size := fun e => by have h1 := (hrow.lt _ e).1; omega
      have hzz := HZ.out
      have HTS := Lib.hid hts; have HROW := Lib.hid hrow; have HF := Lib.hid hfr; have HNB := Lib.hid hnb
      clear hts hrow hfr hc hx hcc hnb c1 hfw
      go_wp2
      go_region_law (refine step_append_lies _ rfl _ _ 80 rfl (w1.heap.size + 1) 97 i0 (.agg #[.string ⟨#[]⟩, .int .u64 0]) 2 24 Tryz.underlying80 hi hz0 hz1 hz2 rfl (by decide) (.slice ao k co) (k) _ (by simp [Act.eval, Act.put]) (HROW.out.alloc _) ⟨wr.heap.size, 0, none⟩ 1 1 ([.string xp, .int .u64 xt]) (by simp [Act.eval, Act.put]) rfl (World.news_of_block (cs := ([.string xp, .int .u64 xt]).toArray) (t := 97) (fr := (0, 0)) (heap_alloc_new _ _)) (by simp [Value.oneCell']) (by omega) (by unfold maxLen; omega) (by omega) (by simp; omega) (wr.heap.size + 1) (by simp) ?_; intro g gc w5 hown hgrow hfresh hlt1; have hbw := (hgrow.block w1.heap.size (by simp; omega) (fun e => HNB.out e.symm)).trans ((Below.heap_alloc _ _ _ hbl).trans HBO.out); obtain ⟨m7, n7, hl7⟩ := box_cells hbw; have HBW := Lib.hid hbw; clear hbw)
      all_goals
        go_wp2
        go_roundw
        case rel =>
          have hbs := box_set (i := 4) (v := .slice (some ⟨g, 0, none⟩) (k + 1) gc) HBW.out
          simp only [List.setIfInBounds_toArray, List.set_cons_zero, List.set_cons_succ] at hbs
          refine ⟨k + 1, some ⟨g, 0, none⟩, gc, by omega, by go_num, hbs, ?_, ?_⟩
          · rw [HTS.out]
            exact ownsRow_same hown fun q e => heap_setCell_other _ _ _ _ (by have h1 := (hown.lt q e).1; show q ≠ w1.heap.size; omega)
          · exact ((HF.out.alloc _).drew.grown hgrow fun q e => .inr (by have h1 := (HROW.out.lt q e).1; omega)).setCell (p := ⟨w1.heap.size, 4, none⟩) (.inl rfl) _
        case measure => simp [intOf]; omega
    · obtain rfl : k = ns.length := by omega
      rw [List.take_length] at hrow
      have hnl : (ns.map fun r => (⟨r.pred, r.turn⟩ : Nd)).length = ns.length := by simp
      rw [← hnl] at hrow
      obtain ⟨bb, hbb, hrows⟩ := rowsK_of_row (enc := Nd.enc) (n := 2) (fun _ => rfl) (by decide) hrow
      rw [hnl] at hrows
      have hF3 := hfw.trans hfr fun q e => .inr (by rw [show q = w1.heap.size from e]; omega)
      have HR := Lib.hid hrows; have HF := Lib.hid hF3
      clear hrows hrow hfr hnl hfw hF3
      go_wp2
      go_ret
      exact ⟨_, rfl, outs_one (r := ⟨0, 3, 0, st, .slice ak ks.length ck, .slice ao ns.length co, 0, 0, 0, .slice none 0 0⟩) (World.alloc_heap_new _ _) ⟨⟨rfl, rfl, rfl, rfl, rfl, rfl, rfl⟩, ⟨bk, HK.out.fr0 (HF.out.alloc _)⟩, ⟨bb, Nds.fr0 HR.out ((Fr.refl _ _).alloc _)⟩, ⟨0, RowsK.nil _ _ _ _⟩⟩, HF.out.alloc _⟩

end Go.Proofs.YthidminepegnoaaGreatDoor
namespace Go.Proofs.YthidminepegnoaaGreatDoor
open Go.RowKit Go.Shelf Go.Maps Go.Sort
attribute [local go_sem] Oper.semAt_some
attribute [local irreducible] wpQuiet
set_option linter.unusedVariables false
set_option linter.unusedSimpArgs false


theorem tbox_facts {w0 W : World} {B bl o : Nat} {v0 v1 v2 v3 v4 v5 v6 v7 v8 x : Value} (h : BoxS w0 B #[v0, v1, v2, v3, v4, v5, v6, v7, v8] W) (hx : W.cell? ⟨bl, o, none⟩ = some x) :
    W.cell? ⟨B, 0, none⟩ = some v0 ∧ W.cell? ⟨B, 1, none⟩ = some v1 ∧ W.cell? ⟨B, 2, none⟩ = some v2 ∧ W.cell? ⟨B, 3, none⟩ = some v3 ∧ W.cell? ⟨B, 4, none⟩ = some v4 ∧ W.cell? ⟨B, 5, none⟩ = some v5 ∧ W.cell? ⟨B, 6, none⟩ = some v6 ∧ W.cell? ⟨B, 7, none⟩ = some v7 ∧ W.cell? ⟨B, 8, none⟩ = some v8 ∧ W.cell? ⟨bl, o, none⟩ = some x :=
  ⟨h.1 0, h.1 1, h.1 2, h.1 3, h.1 4, h.1 5, h.1 6, h.1 7, h.1 8, hx⟩

set_option maxRecDepth 100000 in
set_option maxHeartbeats 4000000 in
theorem rAgain_p3 (w : World) (v : Value) (t : Txn) (h : IsTxn w v t) (hv : Inv t) (hp : t.phase = 3) : Calls Tryz.prog 10 #[v] w (fun e w' => ∃ v', e = .returned v' ∧ Outs w' v' (again t) ∧ Fr N0 w w') := by
  have hM := fun W (hf : Fr N0 w W) => rMay_any W v t (h.fr0 hf) hv
  have hro := hv.moving (by omega)
  have hO := fun W (hf : Fr N0 w W) g => rown_any W v t (h.fr0 hf) hv hro g
  have hag : again t = t.left.map fun g => { group := g, skind := 2, sstart := t.start, swrites := ownOf t g } := by unfold again; rw [if_neg (by omega), if_pos hp]
  have hlf := hv.fewLeft
  rw [hag]
  obtain ⟨vw, vk, vn, vg, vl, rfl, h⟩ := h
  obtain ⟨⟨aw, cw, rfl⟩, ⟨ak, ck, rfl⟩, ⟨an, cn, rfl⟩, ⟨ag, cg, rfl⟩, ⟨al, cl, rfl⟩⟩ := h.shapes
  obtain ⟨bl, al', offl, capl, el, l1, l2, l3, -, l5, -⟩ := h.ls
  simp only [Value.slice.injEq] at el
  obtain ⟨rfl, -, rfl⟩ := el
  obtain ⟨OW, hOW⟩ : ∃ O : Int → List Wr, ownOf t = O := ⟨_, rfl⟩
  rw [hOW] at hO ⊢
  obtain ⟨ph, st, cm, ws, ks, ns, gs, ls, fl⟩ := t
  simp only at *
  subst hp
  obtain ⟨o, ho⟩ : ∃ o : Int → Out, (fun g => ({ group := g, skind := 2, sstart := st, swrites := OW g } : Out)) = o := ⟨_, rfl⟩
  have ho' : ∀ x, o x = { group := x, skind := 2, sstart := st, swrites := OW x } := fun x => by rw [← ho]
  rw [ho]
  have HM := Lib.hid hM; have HC := Lib.hid l5; have HO := Lib.hid hO
  clear hM h hv hag l5 hOW hO hro
  obtain ⟨i0, hi, hz0, hz1, hz2⟩ := info_parts infoOut
  go_enter Tryz.func10, Tryz.ntmps10
  go_wp2_with (go_at_call 16; go_loud (refine (HM.out _ ((Fr.refl _ _).alloc _)).mono ?_); rintro e w1 ⟨rfl, hf1⟩; have hB1 := boxS_keep hf1 (boxS_new w _ _); have HB := Lib.hid hB1; obtain ⟨m1, m2, m3⟩ := boxS_facts hB1; clear hB1)
  have hcal : ∀ W, Fr N0 w W → ∀ x, Calls Tryz.prog 34 #[.agg #[.int .u8 3, .int .u64 st, .int .u64 cm, .slice aw ws.length cw, .slice ak ks.length ck, .slice an ns.length cn, .slice ag gs.length cg, .slice al ls.length cl, .bool fl], .int .u32 x] W fun e w' => ∃ r : OutV, (∃ a n c, e = .returned (.slice a n c) ∧ r = ⟨x, 0, 0, 0, .slice none 0 0, .slice none 0 0, 2, st, 0, .slice a n c⟩) ∧ El w' (fun b => W.heap.size ≤ b) r { group := x, skind := 2, sstart := st, swrites := OW x } ∧ Fr N0 W w' := fun W hf x => by
    refine (HO.out W hf x).mono ?_
    rintro e w' ⟨vw, b, rfl, hb, hw, hf'⟩
    obtain ⟨a, _, c, rfl, -⟩ := id hw
    exact ⟨_, ⟨a, _, c, rfl, rfl⟩, ⟨⟨rfl, rfl, rfl, rfl, rfl, rfl, rfl⟩, ⟨rfl, rfl⟩, ⟨rfl, rfl⟩, b, fun _ => hb, hw⟩, hf'⟩
  have HCAL := Lib.hid hcal
  clear hcal HO m1 m2 m3 HM hf1
  simp only [← ho'] at HCAL
  clear ho ho'
  go_loopw [3, 4] (fun ov iv wr => ∃ (k : Nat) (rs : List OutV), k ≤ ls.length ∧ iv = .int .i64 k ∧ Hid (rs.length = k) ∧ Hid (∀ i (h : i < rs.length) (h' : i < ls.length), El wr (fun b => ov.ownBlock ≠ some b) rs[i] (o ls[i])) ∧ wr.ownsRow (w.heap.size + 1) 89 26 ov k (rs.flatMap OutV.enc) ∧ BoxS w w.heap.size #[.int .u8 3, .int .u64 st, .int .u64 cm, .slice aw ws.length cw, .slice ak ks.length ck, .slice an ns.length cn, .slice ag gs.length cg, .slice al ls.length cl, .bool fl] wr) (fun _ iv _ => ls.length - (intOf iv).toNat)
  case atStart => exact ⟨0, [], Nat.zero_le _, rfl, rfl, fun i h => by simp at h, World.ownsRow_nil _ _ _ _, HB.out⟩
  case round =>
    obtain ⟨k, rs, hk, rfl, hrl, his, hrow, hB⟩ := hrel
    have hfr := hB.2.2
    have hwsz := hfr.size
    have m0 := hB.1
    have HB2 := Lib.hid hB
    clear hB
    by_cases hlt : k < ls.length
    · obtain rfl := l3 (by omega)
      have c0 := hfr.cell id (HC.out k hlt : _ = some (.int .u32 ls[k]))
      have hnext : ∀ (r : OutV) (w1 w2 : World) (g : Nat), Fr N0 wr w1 → El w1 (fun b => wr.heap.size ≤ b) r (o ls[k]) → Fr (fun b => u3.ownBlock = some b) w1 w2 → (u3.ownBlock = some g ∨ w1.heap.size ≤ g) →
          (rs ++ [r]).length = k + 1 ∧ ∀ i (h : i < (rs ++ [r]).length) (h' : i < ls.length), El w2 (fun b => some g ≠ some b) (rs ++ [r])[i] (o ls[i]) := fun r w1 w2 g hf hr hf2 hg => by
        have hl := hrl.out
        have hlt4 : ∀ b, u3.ownBlock = some b → b < wr.heap.size := fun b h => (hrow.lt b h).2
        have hsz1 := hf.size
        refine ⟨by simp [hl], fun i h h' => ?_⟩
        by_cases hi : i < rs.length
        · rw [List.getElem_append_left hi]
          refine ((his.out i hi h').next (G' := fun b => u3.ownBlock ≠ some b ∧ b < wr.heap.size) hf (fun _ _ h => h) (fun b h1 h2 => ⟨h1, h2⟩)).next hf2 (fun b h1 h2 => h1.1 h2) (fun b h1 h2 h3 => ?_)
          rw [Option.some.injEq] at h3; subst h3
          rcases hg with hg | hg
          · exact h1.1 hg
          · omega
        · have hik : i = k := by simp at h; omega
          subst hik
          rw [List.getElem_append_right (by omega)]
          have hr2 : El w2 (fun b => some g ≠ some b) r (o ls[i]) := hr.next hf2 (fun b h1 h2 => by have := hlt4 b h2; omega) (fun b h1 h2 h3 => by
            rw [Option.some.injEq] at h3; subst h3
            rcases hg with hg | hg
            · have := hlt4 _ hg; omega
            · omega)
          simpa [hl] using hr2
      obtain ⟨x, hx⟩ : ∃ x, ls[k] = x := ⟨_, rfl⟩
      rw [hx] at c0
      simp only [hx] at hnext
      have hki : (k : Int) < (ls.length : Int) := by omega
      have HNX := Lib.hid hnext; have HROW := Lib.hid hrow
      clear hnext hrow hrl his
      have HFR := Lib.hid hfr
      have HF0 := Lib.hid hfr.drew
      have HCL := Lib.hid (show w.cell? ⟨bl, offl + k, none⟩ = some (.int .u32 x) by rw [← hx]; exact HC.out k hlt)
      have hlt0 := HB2.out.2.1
      clear hfr hx
      go_wp2
      have hwz0 : wr.drew.heap.size = wr.heap.size := rfl
      go_region_held3 (fun W' => W'.cell? ⟨w.heap.size, 0, none⟩ = some (.int .u8 3) ∧ W'.cell? ⟨w.heap.size, 1, none⟩ = some (.int .u64 st) ∧ W'.cell? ⟨w.heap.size, 2, none⟩ = some (.int .u64 cm) ∧ W'.cell? ⟨w.heap.size, 3, none⟩ = some (.slice aw ws.length cw) ∧ W'.cell? ⟨w.heap.size, 4, none⟩ = some (.slice ak ks.length ck) ∧ W'.cell? ⟨w.heap.size, 5, none⟩ = some (.slice an ns.length cn) ∧ W'.cell? ⟨w.heap.size, 6, none⟩ = some (.slice ag gs.length cg) ∧ W'.cell? ⟨w.heap.size, 7, none⟩ = some (.slice (some ⟨bl, offl, none⟩) ls.length cl) ∧ W'.cell? ⟨w.heap.size, 8, none⟩ = some (.bool fl) ∧ W'.cell? ⟨bl, offl + k, none⟩ = some (.int .u32 x))
        (first
          | exact tbox_facts (boxS_keep (Fr.refl _ _).drew HB2.out) c0
          | exact tbox_facts (boxS_keep ((Fr.refl _ _).drew.then0 hf1) HB2.out) (hf1.cell id c0)
          | exact tbox_facts (boxS_keep (((Fr.refl _ _).drew.then0 hf1).alloc _) HB2.out) ((hf1.alloc _).cell id c0)
          | exact tbox_facts (boxS_grown (boxS_keep (((Fr.refl _ _).drew.then0 hf1).alloc _) HB2.out) hgrow (fun q e => (HROW.out.lt q e).1) (Nat.le_refl _)) ((HF0.out.then0 hf1 |>.alloc _ |>.grown hgrow (fun q e => .inr (by have := (HROW.out.lt q e).1; omega))).cell id HCL.out))
        (first
          | (go_at_call 34; refine (HCAL.out _ HFR.out.drew _).mono ?_; rintro e w4 ⟨r1, ⟨a1, q1, c1, rfl, rfl⟩, hr1, hf1⟩; have hone1 := hr1.is.one; have HR1 := Lib.hid hr1; have hro := HROW.out.fr0 ((Fr.refl _ _).drew.then0 hf1); have HROW1 := Lib.hid hro; have hwz1 := hf1.size; simp only [World.size_drew] at hwz1; simp only [OutV.enc] at hone1; have HONE1 := Lib.hid hone1; clear hr1 hone1 hro)
          | (refine step_append_lies _ rfl _ _ 33 rfl (w.heap.size + 1) 89 i0 zeroOutV 26 248 Tryz.underlying33 hi hz0 hz1 hz2 rfl (by decide) u3 k _ (by simp [Act.eval, Act.put]) (HROW1.out.alloc _) ⟨w4.heap.size, 0, none⟩ 1 1 ([.int .u32 x, .int .u8 0, .int .u32 0, .int .u64 0, .slice none 0 0, .slice none 0 0, .string ⟨#[]⟩, .int .u32 0, .int .u32 0, .int .u64 0, .int .u8 2, .int .u64 st, .int .u64 0, .slice a1 q1 c1, .string ⟨#[]⟩, .int .u8 0, .bool false, .bool false, .bool false, .bool false, .bool false, .bool false, .string ⟨#[]⟩, .int .u64 0, .slice none 0 0, .slice none 0 0]) (by simp [Act.eval, Act.put]) rfl (World.news_of_block (cs := ([.int .u32 x, .int .u8 0, .int .u32 0, .int .u64 0, .slice none 0 0, .slice none 0 0, .string ⟨#[]⟩, .int .u32 0, .int .u32 0, .int .u64 0, .int .u8 2, .int .u64 st, .int .u64 0, .slice a1 q1 c1, .string ⟨#[]⟩, .int .u8 0, .bool false, .bool false, .bool false, .bool false, .bool false, .bool false, .string ⟨#[]⟩, .int .u64 0, .slice none 0 0, .slice none 0 0]).toArray) (t := 89) (fr := (0, 0)) (heap_alloc_new w4 _)) HONE1.out (by omega) (by unfold maxLen; omega) (by omega) (by simp; omega) (w4.heap.size + 1) (by simp) ?_; intro g gc w5 hown hgrow hfresh hlt1))
      go_wp2
      go_roundw
      case rel =>
        have hfx : Fr (fun b => u3.ownBlock = some b) w4 w5 := ((Fr.refl _ _).alloc _).grown hgrow fun q e => .inl e
        obtain ⟨z1, z2⟩ := HNX.out _ w4 w5 g ((Fr.refl _ _).drew.then0 hf1) (by rw [← hwz0]; exact HR1.out) hfx (hfresh.imp id fun h => by omega)
        exact ⟨k + 1, rs ++ [_], by omega, by go_num, z1, z2, by rw [flat_snoc]; exact hown, boxS_grown (boxS_keep (((Fr.refl _ _).drew.then0 hf1).alloc _) HB2.out) hgrow (fun q e => (HROW.out.lt q e).1) (Nat.le_refl _)⟩
      case measure => simp [intOf]; omega
    · obtain rfl : k = ls.length := by omega
      have hl := hrl.out
      rw [← hl] at hrow
      obtain ⟨bb, hbb, hrows⟩ := rowsK_of_row (enc := OutV.enc) (n := 26) (fun _ => rfl) (by decide) hrow
      have hfin : Outs wr u3 (ls.map o) := ⟨bb, rs, hrows, by rw [List.length_map]; exact hl, fun i h h' => by rw [List.getElem_map]; exact (his.out i h (by simpa using h')).is⟩
      have HFIN := Lib.hid hfin; have HF := Lib.hid hfr
      clear hfin hrows hrow hrl his hfr hl
      go_wp2
      go_ret
      exact ⟨_, rfl, HFIN.out, HF.out⟩
set_option maxRecDepth 100000 in
set_option maxHeartbeats 4000000 in
theorem rAgain_p5 (w : World) (v : Value) (t : Txn) (h : IsTxn w v t) (hv : Inv t) (hp : t.phase = 5) : Calls Tryz.prog 10 #[v] w (fun e w' => ∃ v', e = .returned v' ∧ Outs w' v' (again t) ∧ Fr N0 w w') := by
  have hM := fun W (hf : Fr N0 w W) => rMay_any W v t (h.fr0 hf) hv
  have hag : again t = t.left.map fun g => { group := g, skind := 3, sstart := t.start, scommit := t.commit } := by unfold again; rw [if_neg (by omega), if_neg (by omega), if_neg (by omega), if_pos hp]
  have hlf := hv.fewLeft
  rw [hag]
  obtain ⟨vw, vk, vn, vg, vl, rfl, h⟩ := h
  obtain ⟨⟨aw, cw, rfl⟩, ⟨ak, ck, rfl⟩, ⟨an, cn, rfl⟩, ⟨ag, cg, rfl⟩, ⟨al, cl, rfl⟩⟩ := h.shapes
  obtain ⟨bl, al', offl, capl, el, l1, l2, l3, -, l5, -⟩ := h.ls
  simp only [Value.slice.injEq] at el
  obtain ⟨rfl, -, rfl⟩ := el
  obtain ⟨ph, st, cm, ws, ks, ns, gs, ls, fl⟩ := t
  simp only at *
  subst hp
  obtain ⟨o, ho⟩ : ∃ o : Int → Out, (fun g => ({ group := g, skind := 3, sstart := st, scommit := cm } : Out)) = o := ⟨_, rfl⟩
  have ho' : ∀ W b g, El W (fun q => some b ≠ some q) ⟨g, 0, 0, 0, .slice none 0 0, .slice none 0 0, 3, st, cm, .slice none 0 0⟩ (o g) := fun W b g => by
    rw [← ho]
    exact ⟨⟨rfl, rfl, rfl, rfl, rfl, rfl, rfl⟩, ⟨rfl, rfl⟩, ⟨rfl, rfl⟩, 0, fun h => absurd rfl h, RowsK.nil _ _ _ _⟩
  have hos : ∀ {W W' : World} {G G' : Nat → Prop} {r : OutV} {g : Int}, El W G r (o g) → El W' G' r (o g) := fun {W W' G G' r g} h => by
    rw [← ho] at h ⊢
    obtain ⟨h1, h2, h3, b, h4, h5⟩ := h
    exact ⟨h1, h2, h3, b, fun hne => absurd rfl hne, rows_empty h5 rfl⟩
  rw [ho]
  have HM := Lib.hid hM; have HC := Lib.hid l5; have HOE := Lib.hid ho'; have HOS := Lib.hid (fun (W W' : World) (G G' : Nat → Prop) (r : OutV) (g : Int) (h : El W G r (o g)) => (hos h : El W' G' r (o g)))
  clear hM h hv hag l5 ho ho' hos
  obtain ⟨i0, hi, hz0, hz1, hz2⟩ := info_parts infoOut
  go_enter Tryz.func10, Tryz.ntmps10
  go_wp2_with (go_at_call 16; go_loud (refine (HM.out _ ((Fr.refl _ _).alloc _)).mono ?_); rintro e w1 ⟨rfl, hf1⟩; have hB1 := boxS_keep hf1 (boxS_new w _ _); have HB := Lib.hid hB1; obtain ⟨m1, m2, m3⟩ := boxS_facts hB1; clear hB1)
  clear m1 m2 m3 HM hf1
  go_loopw [3, 7] (fun ov iv wr => ∃ (k : Nat) (rs : List OutV), k ≤ ls.length ∧ iv = .int .i64 k ∧ Hid (rs.length = k) ∧ Hid (∀ i (h : i < rs.length) (h' : i < ls.length), El wr (fun b => ov.ownBlock ≠ some b) rs[i] (o ls[i])) ∧ wr.ownsRow (w.heap.size + 1) 89 26 ov k (rs.flatMap OutV.enc) ∧ BoxS w w.heap.size #[.int .u8 5, .int .u64 st, .int .u64 cm, .slice aw ws.length cw, .slice ak ks.length ck, .slice an ns.length cn, .slice ag gs.length cg, .slice al ls.length cl, .bool fl] wr) (fun _ iv _ => ls.length - (intOf iv).toNat)
  case atStart => exact ⟨0, [], Nat.zero_le _, rfl, rfl, fun i h => by simp at h, World.ownsRow_nil _ _ _ _, HB.out⟩
  case round =>
    obtain ⟨k, rs, hk, rfl, hrl, his, hrow, hB⟩ := hrel
    have hfr := hB.2.2
    have hwsz := hB.2.1
    have m0 := hB.1
    have HB2 := Lib.hid hB
    clear hB
    by_cases hlt : k < ls.length
    · obtain rfl := l3 (by omega)
      have c0 := hfr.cell id (HC.out k hlt : _ = some (.int .u32 ls[k]))
      have hoe := HOE.out
      have hnext : ∀ (x : Int), ls[k] = x → ∀ (w2 : World) (g : Nat), (rs ++ [(⟨x, 0, 0, 0, .slice none 0 0, .slice none 0 0, 3, st, cm, .slice none 0 0⟩ : OutV)]).length = k + 1 ∧ ∀ i (h : i < (rs ++ [(⟨x, 0, 0, 0, .slice none 0 0, .slice none 0 0, 3, st, cm, .slice none 0 0⟩ : OutV)]).length) (h' : i < ls.length), El w2 (fun b => some g ≠ some b) (rs ++ [(⟨x, 0, 0, 0, .slice none 0 0, .slice none 0 0, 3, st, cm, .slice none 0 0⟩ : OutV)])[i] (o ls[i]) := fun x hx w2 g => by
        have hl := hrl.out
        refine ⟨by simp [hl], fun i h h' => ?_⟩
        by_cases hi : i < rs.length
        · rw [List.getElem_append_left hi]
          exact HOS.out _ _ _ _ _ _ (his.out i hi h')
        · have hik : i = k := by simp at h; omega
          subst hik
          rw [List.getElem_append_right (by omega)]
          rw [hx]
          simpa [hl] using hoe w2 g x
      obtain ⟨x, hx⟩ : ∃ x, ls[k] = x := ⟨_, rfl⟩
      rw [hx] at c0
      replace hnext := hnext x hx
      have hki : (k : Int) < (ls.length : Int) := by omega
      have HNX := Lib.hid hnext; have HROW := Lib.hid hrow
      have HF0 := Lib.hid hfr
      have HCL := Lib.hid (show w.cell? ⟨bl, offl + k, none⟩ = some (.int .u32 x) by rw [← hx]; exact HC.out k hlt)
      clear hnext hrow hrl his hx hoe hfr
      go_wp2
      go_region_held3 (fun W' => W'.cell? ⟨w.heap.size, 0, none⟩ = some (.int .u8 5) ∧ W'.cell? ⟨w.heap.size, 1, none⟩ = some (.int .u64 st) ∧ W'.cell? ⟨w.heap.size, 2, none⟩ = some (.int .u64 cm) ∧ W'.cell? ⟨w.heap.size, 3, none⟩ = some (.slice aw ws.length cw) ∧ W'.cell? ⟨w.heap.size, 4, none⟩ = some (.slice ak ks.length ck) ∧ W'.cell? ⟨w.heap.size, 5, none⟩ = some (.slice an ns.length cn) ∧ W'.cell? ⟨w.heap.size, 6, none⟩ = some (.slice ag gs.length cg) ∧ W'.cell? ⟨w.heap.size, 7, none⟩ = some (.slice (some ⟨bl, offl, none⟩) ls.length cl) ∧ W'.cell? ⟨w.heap.size, 8, none⟩ = some (.bool fl) ∧ W'.cell? ⟨bl, offl + k, none⟩ = some (.int .u32 x))
        (first
          | exact tbox_facts (boxS_keep (Fr.refl _ _).drew HB2.out) c0
          | exact tbox_facts (boxS_keep ((Fr.refl N0 wr).alloc _).drew HB2.out) (((Fr.refl N0 wr).alloc _).drew.cell id c0)
          | exact tbox_facts (boxS_grown (boxS_keep ((Fr.refl N0 wr).alloc _).drew HB2.out) hgrow (fun q e => (HROW.out.lt q e).1) (Nat.le_refl _)) ((HF0.out.alloc _ |>.drew |>.grown hgrow (fun q e => .inr (by have := (HROW.out.lt q e).1; omega))).cell id HCL.out))
        ((refine step_append_lies _ rfl _ _ 33 rfl (w.heap.size + 1) 89 i0 zeroOutV 26 248 Tryz.underlying33 hi hz0 hz1 hz2 rfl (by decide) u3 k _ (by simp [Act.eval, Act.put]) (HROW.out.alloc _) ⟨wr.heap.size, 0, none⟩ 1 1 ([.int .u32 x, .int .u8 0, .int .u32 0, .int .u64 0, .slice none 0 0, .slice none 0 0, .string ⟨#[]⟩, .int .u32 0, .int .u32 0, .int .u64 0, .int .u8 3, .int .u64 st, .int .u64 cm, .slice none 0 0, .string ⟨#[]⟩, .int .u8 0, .bool false, .bool false, .bool false, .bool false, .bool false, .bool false, .string ⟨#[]⟩, .int .u64 0, .slice none 0 0, .slice none 0 0]) (by simp [Act.eval, Act.put]) rfl (World.news_of_block (cs := ([.int .u32 x, .int .u8 0, .int .u32 0, .int .u64 0, .slice none 0 0, .slice none 0 0, .string ⟨#[]⟩, .int .u32 0, .int .u32 0, .int .u64 0, .int .u8 3, .int .u64 st, .int .u64 cm, .slice none 0 0, .string ⟨#[]⟩, .int .u8 0, .bool false, .bool false, .bool false, .bool false, .bool false, .bool false, .string ⟨#[]⟩, .int .u64 0, .slice none 0 0, .slice none 0 0]).toArray) (t := 89) (fr := (0, 0)) (heap_alloc_new wr.drew _)) (by simp [Value.oneCell']) (by omega) (by unfold maxLen; omega) (by omega) (by simp; omega) (wr.heap.size + 1) (by simp) ?_; intro g gc w5 hown hgrow hfresh hlt1))
      go_wp2
      go_roundw
      case rel =>
        obtain ⟨z1, z2⟩ := HNX.out w5 g
        exact ⟨k + 1, rs ++ [_], by omega, by go_num, z1, z2, by rw [flat_snoc]; exact hown, boxS_grown (boxS_keep ((Fr.refl N0 wr).alloc _).drew HB2.out) hgrow (fun q e => (HROW.out.lt q e).1) (Nat.le_refl _)⟩
      case measure => simp [intOf]; omega
    · obtain rfl : k = ls.length := by omega
      have hl := hrl.out
      rw [← hl] at hrow
      obtain ⟨bb, hbb, hrows⟩ := rowsK_of_row (enc := OutV.enc) (n := 26) (fun _ => rfl) (by decide) hrow
      have hfin : Outs wr u3 (ls.map o) := ⟨bb, rs, hrows, by rw [List.length_map]; exact hl, fun i h h' => by rw [List.getElem_map]; exact (his.out i h (by simpa using h')).is⟩
      have HFIN := Lib.hid hfin; have HF := Lib.hid hfr
      clear hfin hrows hrow hrl his hfr hl
      go_wp2
      go_ret
      exact ⟨_, rfl, HFIN.out, HF.out⟩

theorem rAgain_any (w : World) (v : Value) (t : Txn) (h : IsTxn w v t) (hv : Inv t) : Calls Tryz.prog 10 #[v] w fun e w' => ∃ v', e = .returned v' ∧ Outs w' v' (again t) ∧ Fr N0 w w' := by
  have hph : t.phase = 1 ∨ (t.phase = 2 ∨ t.phase = 6) ∨ t.phase = 3 ∨ t.phase = 5 ∨ t.phase = 4 := by have := hv.phase; omega
  rcases hph with hp | hp | hp | hp | hp
  · exact rAgain_p1 w v t h hv hp
  · exact rAgain_p2 w v t h hv hp
  · exact rAgain_p3 w v t h hv hp
  · exact rAgain_p5 w v t h hv hp
  · cases hf : t.failed
    · exact rAgain_p4 w v t h hv hp hf
    · exact rAgain_p4f w v t h hv hp hf
end Go.Proofs.YthidminepegnoaaGreatDoor
