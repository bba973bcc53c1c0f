/- What is outstanding: the program's Again. -/
import Derived.Test.YthidminepegnoaaGreatDoorQCheck
import Derived.Test.YthidminepegnoaaGreatDoorQOwn
namespace Go.Proofs.YthidminepegnoaaGreatDoor
open Go.RowKit Go.Shelf Go.Maps Go.Sort
attribute [local go_sem] Oper.semAt_some
attribute [local irreducible] wpQuiet
set_option linter.unusedVariables false
set_option linter.unusedSimpArgs false

theorem oneStaged {w : World} {v : Value} {t : Txn} (h : IsTxn w v t) (hv : Inv t) (hr : RoutesOk t) : OneOut w 52 v t.left (fun g => { group := g, skind := 2, sstart := t.start, swrites := ownOf t g }) := by
  intro g hg W hf
  refine (xstaged_any W v t (h.fr0 hf) hv hr g).mono ?_
  rintro e w' ⟨vw, rfl, ⟨b, hb, hw⟩, hf'⟩
  exact ⟨_, rfl, ⟨⟨rfl, rfl, rfl, rfl, rfl, rfl, rfl⟩, ⟨rfl, rfl⟩, ⟨rfl, rfl⟩, b, fun _ => hb, hw⟩, hf'⟩
theorem oneFinaled {w : World} {v : Value} {t : Txn} (h : IsTxn w v t) : OneOut w 54 v t.left (fun g => { group := g, skind := 3, sstart := t.start, scommit := t.commit }) := by
  intro g hg W hf
  refine (xfinaled_any W v t (h.fr0 hf) g).mono ?_
  rintro e w' ⟨rfl, hf'⟩
  exact ⟨_, rfl, ⟨⟨rfl, rfl, rfl, rfl, rfl, rfl, rfl⟩, ⟨rfl, rfl⟩, ⟨rfl, rfl⟩, 0, fun h => absurd rfl h, RowsK.nil _ _ _ _⟩, hf'⟩

set_option maxRecDepth 100000 in
set_option maxHeartbeats 4000000 in
theorem xAgain_p3 (w : World) (v : Value) (t : Txn) (h : IsTxn w v t) (hv : Inv t) (hp : t.phase = 3 ∨ t.phase = 5) : Calls Tryz.prog 18 #[v] w fun e w' => ∃ v', e = .returned v' ∧ Outs w' v' (again t) ∧ Fr N0 w w' := by
  have hM := fun W (hf : Fr N0 w W) => xMay_any W v t (h.fr0 hf) hv
  have hlf := hv.fewLeft
  have hro := hv.moving (by omega)
  have hS := fun W (hf : Fr N0 w W) => oneStaged (h.fr0 hf) hv hro
  have hF := fun W (hf : Fr N0 w W) => oneFinaled (h.fr0 hf)
  have ha3 : t.phase = 3 → again t = t.left.map fun g => { group := g, skind := 2, sstart := t.start, swrites := ownOf t g } := fun h => by unfold again; rw [if_neg (by omega), if_pos h]
  have ha5 : t.phase = 5 → again t = t.left.map fun g => { group := g, skind := 3, sstart := t.start, scommit := t.commit } := fun h => by unfold again; rw [if_neg (by omega), if_neg (by omega), if_neg (by omega), if_pos h]
  obtain ⟨vw, vk, vn, vg, vl, rfl, h⟩ := h
  obtain ⟨bl, hl⟩ := h.ls
  have he := fun (W : World) (hf : Fr N0 w W) (hc : ∀ i, W.cell? ⟨w.heap.size, i, none⟩ = #[.int .u8 t.phase, .int .u64 t.start, .int .u64 t.commit, vw, vk, vn, vg, vl, .bool t.failed][i]?) gf o ho eg => xeach_any W w.heap.size t.phase t.start t.commit vw vk vn vg vl t.failed hc bl t.left (hl.fr0 hf) (by omega) gf o ho eg
  have HM := Lib.hid hM; have HE := Lib.hid he; have HS := Lib.hid hS; have HF := Lib.hid hF
  have HA3 := Lib.hid ha3; have HA5 := Lib.hid ha5
  clear hM he hS hF h hv hro hl ha3 ha5
  rcases hp with hp | hp
  · obtain ⟨AG, hAG⟩ : ∃ A, again t = A := ⟨_, rfl⟩
    have hag := hAG.symm.trans (HA3.out hp)
    have HAG := Lib.hid hAG; have HAG2 := Lib.hid hag
    rw [hAG]
    clear hAG hag HA3 HA5
    obtain ⟨ph, st, cm, ws, ks, ns, gs, ls, fl⟩ := t
    simp only at hp HM HE HS HAG2 ⊢
    subst hp
    go_enter Tryz.func18, Tryz.ntmps18
    go_wp2_with (first
      | (go_at_call 14; go_loud (refine (HM.out _ ((Fr.refl _ _).alloc _)).mono ?_); rintro e w1 ⟨rfl, hf1⟩; have hB1 := boxS_keep hf1 (boxS_new w _ _); have HB := Lib.hid hB1; obtain ⟨m1, m2, m3⟩ := boxS_facts hB1; clear hB1)
      | (go_at_call 51; go_loud (refine (HE.out _ (HB.out.2.2.alloc _) (m2 _) 52 _ (HS.out _ (HB.out.2.2.alloc _)) (enters_of Tryz.func52 (by kernel_rfl) rfl)).mono ?_); rintro e w2 ⟨v2, rfl, ho2, hf2⟩; have HO2 := Lib.hid ho2; clear ho2))
    go_ret
    exact ⟨_, rfl, by rw [HAG2.out]; exact HO2.out, (HB.out.2.2.alloc _).then0 hf2⟩
  · obtain ⟨AG, hAG⟩ : ∃ A, again t = A := ⟨_, rfl⟩
    have hag := hAG.symm.trans (HA5.out hp)
    have HAG := Lib.hid hAG; have HAG2 := Lib.hid hag
    rw [hAG]
    clear hAG hag HA3 HA5
    obtain ⟨ph, st, cm, ws, ks, ns, gs, ls, fl⟩ := t
    simp only at hp HM HE HF HAG2 ⊢
    subst hp
    go_enter Tryz.func18, Tryz.ntmps18
    go_wp2_with (first
      | (go_at_call 14; go_loud (refine (HM.out _ ((Fr.refl _ _).alloc _)).mono ?_); rintro e w1 ⟨rfl, hf1⟩; have hB1 := boxS_keep hf1 (boxS_new w _ _); have HB := Lib.hid hB1; obtain ⟨m1, m2, m3⟩ := boxS_facts hB1; clear hB1)
      | (go_at_call 51; go_loud (refine (HE.out _ (HB.out.2.2.alloc _) (m2 _) 54 _ (HF.out _ (HB.out.2.2.alloc _)) (enters_of Tryz.func54 (by kernel_rfl) rfl)).mono ?_); rintro e w2 ⟨v2, rfl, ho2, hf2⟩; have HO2 := Lib.hid ho2; clear ho2))
    go_ret
    exact ⟨_, rfl, by rw [HAG2.out]; exact HO2.out, (HB.out.2.2.alloc _).then0 hf2⟩

theorem outs_one {W : World} {B : Nat} {r : OutV} {o : Out} {t : TypeId} {fr : Nat × Nat} (h : W.heap[B]? = some (.cells r.enc.toArray t fr)) (hr : r.Is W o) : Outs W (.slice (some ⟨B, 0, none⟩) 1 1) [o] := by
  refine ⟨B, [r], ⟨some ⟨B, 0, none⟩, 0, 1, rfl, Nat.le_refl _, by omega, fun _ => rfl, by simp, fun i hi c hc => ?_⟩, rfl, fun i h h' => ?_⟩
  · obtain rfl : i = 0 := by simpa using hi
    show (match W.heap[B]? with
      | some (.cells cs _ _) => if (none : Option _).isSome then none else cs[0 + 0 * 26 + c]?
      | _ => none) = _
    rw [h]
    simp
  · obtain rfl : i = 0 := by simpa using h
    exact hr

set_option maxRecDepth 100000 in
set_option maxHeartbeats 4000000 in
theorem xAgain_p2 (w : World) (v : Value) (t : Txn) (h : IsTxn w v t) (hv : Inv t) (hp : t.phase = 2 ∨ t.phase = 6) : Calls Tryz.prog 18 #[v] w fun e w' => ∃ v', e = .returned v' ∧ Outs w' v' (again t) ∧ Fr N0 w w' := by
  have hM := fun W (hf : Fr N0 w W) => xMay_any W v t (h.fr0 hf) hv
  have hag : again t = [] := by unfold again; rw [if_neg (by omega), if_neg (by omega), if_neg (by omega), if_neg (by omega)]
  rw [hag]
  obtain ⟨vw, vk, vn, vg, vl, rfl, h⟩ := h
  obtain ⟨ph, st, cm, ws, ks, ns, gs, ls, fl⟩ := t
  simp only at hp hM ⊢
  have HM := Lib.hid hM
  clear hM h hv hag
  rcases hp with hp | hp
  all_goals
    subst hp
    go_enter Tryz.func18, Tryz.ntmps18
    go_wp2_with (go_at_call 14; go_loud (refine (HM.out _ ((Fr.refl _ _).alloc _)).mono ?_); rintro e w1 ⟨rfl, hf1⟩; have hB1 := boxS_keep hf1 (boxS_new w _ _); have HB := Lib.hid hB1; obtain ⟨m1, m2, m3⟩ := boxS_facts hB1; clear hB1)
    go_ret
    exact ⟨_, rfl, outs_nil _, HB.out.2.2.alloc _⟩

set_option maxRecDepth 100000 in
set_option maxHeartbeats 4000000 in
theorem xAgain_p1 (w : World) (v : Value) (t : Txn) (h : IsTxn w v t) (hv : Inv t) (hp : t.phase = 1) : Calls Tryz.prog 18 #[v] w fun e w' => ∃ v', e = .returned v' ∧ Outs w' v' (again t) ∧ Fr N0 w w' := by
  have hM := fun W (hf : Fr N0 w W) => xMay_any W v t (h.fr0 hf) hv
  have hag : again t = [{ okind := 1, n := 1 }] := by unfold again; rw [if_pos hp]
  rw [hag]
  obtain ⟨vw, vk, vn, vg, vl, rfl, h⟩ := h
  obtain ⟨ph, st, cm, ws, ks, ns, gs, ls, fl⟩ := t
  simp only at hp hM ⊢
  have HM := Lib.hid hM
  clear hM h hv hag
  subst hp
  go_enter Tryz.func18, Tryz.ntmps18
  go_wp2_with (go_at_call 14; go_loud (refine (HM.out _ ((Fr.refl _ _).alloc _)).mono ?_); rintro e w1 ⟨rfl, hf1⟩; have hB1 := boxS_keep hf1 (boxS_new w _ _); have HB := Lib.hid hB1; obtain ⟨m1, m2, m3⟩ := boxS_facts hB1; clear hB1)
  go_ret
  exact ⟨_, rfl, outs_one (r := ⟨0, 1, 1, 0, .slice none 0 0, .slice none 0 0, 0, 0, 0, .slice none 0 0⟩) (heap_alloc2_new _ _ _) ⟨⟨rfl, rfl, rfl, rfl, rfl, rfl, rfl⟩, ⟨0, Strs.nil _ _⟩, ⟨0, RowsK.nil _ _ _ _⟩, ⟨0, RowsK.nil _ _ _ _⟩⟩, (HB.out.2.2.alloc _).alloc _⟩

set_option maxRecDepth 100000 in
set_option maxHeartbeats 4000000 in
theorem xAgain_p4f (w : World) (v : Value) (t : Txn) (h : IsTxn w v t) (hv : Inv t) (hp : t.phase = 4) (hf : t.failed = true) : Calls Tryz.prog 18 #[v] w fun e w' => ∃ v', e = .returned v' ∧ Outs w' v' (again t) ∧ Fr N0 w w' := by
  have hM := fun W (hf : Fr N0 w W) => xMay_any W v t (h.fr0 hf) hv
  have hag : again t = [{ okind := 4, ostart := t.start }] := by unfold again; rw [if_neg (by omega), if_neg (by omega), if_pos hp, if_pos hf]
  rw [hag]
  obtain ⟨vw, vk, vn, vg, vl, rfl, h⟩ := h
  obtain ⟨ph, st, cm, ws, ks, ns, gs, ls, fl⟩ := t
  simp only at hp hM hf ⊢
  have HM := Lib.hid hM
  clear hM h hv hag
  subst hp; subst hf
  go_enter Tryz.func18, Tryz.ntmps18
  go_wp2_with (go_at_call 14; go_loud (refine (HM.out _ ((Fr.refl _ _).alloc _)).mono ?_); rintro e w1 ⟨rfl, hf1⟩; have hB1 := boxS_keep hf1 (boxS_new w _ _); have HB := Lib.hid hB1; obtain ⟨m1, m2, m3⟩ := boxS_facts hB1; clear hB1)
  go_ret
  exact ⟨_, rfl, outs_one (r := ⟨0, 4, 0, st, .slice none 0 0, .slice none 0 0, 0, 0, 0, .slice none 0 0⟩) (heap_alloc2_new _ _ _) ⟨⟨rfl, rfl, rfl, rfl, rfl, rfl, rfl⟩, ⟨0, Strs.nil _ _⟩, ⟨0, RowsK.nil _ _ _ _⟩, ⟨0, RowsK.nil _ _ _ _⟩⟩, (HB.out.2.2.alloc _).alloc _⟩

set_option maxRecDepth 100000 in
set_option maxHeartbeats 4000000 in
theorem xAgain_p4 (w : World) (v : Value) (t : Txn) (h : IsTxn w v t) (hv : Inv t) (hp : t.phase = 4) (hf : t.failed = false) : Calls Tryz.prog 18 #[v] w fun e w' => ∃ v', e = .returned v' ∧ Outs w' v' (again t) ∧ Fr N0 w w' := by
  have hM := fun W (hf : Fr N0 w W) => xMay_any W v t (h.fr0 hf) hv
  have hag : again t = [{ okind := 3, ostart := t.start, okeys := t.keys, oneeds := t.needs.map fun r => ⟨r.pred, r.turn⟩ }] := by unfold again; rw [if_neg (by omega), if_neg (by omega), if_pos hp, if_neg (by rw [hf]; decide)]
  rw [hag]
  obtain ⟨vw, vk, vn, vg, vl, rfl, h⟩ := h
  obtain ⟨ph, st, cm, ws, ks, ns, gs, ls, fl⟩ := t
  simp only at hp hM hf ⊢
  obtain ⟨bk, hk⟩ := h.ks
  obtain ⟨bn, hn⟩ := h.ns
  have hfk := hv.fewKeys
  have hfn := (hv.moving (by simp only; omega)).few
  simp only at hk hn hfk hfn
  have hck := fun W (hf : Fr N0 w W) => cloneS_any W bk vk ks (hk.fr0 hf) (by omega)
  obtain ⟨an, offn, capn, rfl, n1, n2, n3, -, n5⟩ := hn
  have HM := Lib.hid hM; have HCK := Lib.hid hck; have HC := Lib.hid n5
  clear hM h hv hag hck hk n5
  subst hp; subst hf
  obtain ⟨i0, hi, hz0, hz1, hz2⟩ := info_parts infoNd
  go_enter Tryz.func18, Tryz.ntmps18
  go_wp2_with (first
    | (go_at_call 14; go_loud (refine (HM.out _ ((Fr.refl _ _).alloc _)).mono ?_); rintro e w1 ⟨rfl, hf1⟩; have hB1 := boxS_keep hf1 (boxS_new w _ _); have HB := Lib.hid hB1; obtain ⟨m1, m2, m3⟩ := boxS_facts hB1; clear hB1)
    | (go_at_call 53; go_loud (refine (HCK.out _ (HB.out.2.2.alloc _)).mono ?_); rintro e w2 ⟨vk2, bk2, rfl, hs2, hbk2, hf2⟩; obtain ⟨ak2, ck2, rfl⟩ := strs_form hs2; have hb2 := (hf2.at (k := w1.heap.size) id (by simp)).trans (World.alloc_heap_new w1 _); have hF2 := (HB.out.2.2.alloc _).then0 hf2; have hB2 := boxS_keep (((Fr.refl _ _).alloc _).then0 hf2) HB.out; have m4 := hB2.1; obtain ⟨mo, no, hol⟩ := box_cells hb2; have HB2 := Lib.hid hb2; have HBB := Lib.hid hB2; have HS2 := Lib.hid hs2; clear hb2 hB2 hs2))
  obtain ⟨W3, hW3⟩ : ∃ W, (w2.setCell ⟨w1.heap.size, 0, none⟩ (.int .u8 3)).setCell ⟨w1.heap.size, 3, none⟩ (.slice ak2 ks.length ck2) = W := ⟨_, rfl⟩
  have hb3 : W3.heap[w1.heap.size]? = some (.cells #[.int .u8 3, .int .u32 0, .int .u64 st, .slice ak2 ks.length ck2, .slice none 0 0, .string ⟨#[]⟩, .int .u32 0, .int .u32 0, .int .u64 0] 82 (0, 0)) := by
    rw [← hW3]
    have := box_set (i := 3) (v := .slice ak2 ks.length ck2) (box_set (i := 0) (v := .int .u8 3) HB2.out)
    simpa using this
  have hf3 : Fr (fun k => k = w1.heap.size) w2 W3 := by rw [← hW3]; exact ((Fr.refl (fun k => k = w1.heap.size) w2).setCell (p := ⟨w1.heap.size, 0, none⟩) (.inl rfl) (.int .u8 3)).setCell (p := ⟨w1.heap.size, 3, none⟩) (.inl rfl) (.slice ak2 ks.length ck2)
  have hbk3 : w1.heap.size < bk2 := by simp at hbk2; omega
  have hs3 := strs_on HS2.out hf3 (by show ¬ bk2 = w1.heap.size; omega)
  have hF3 : Fr N0 w W3 := hF2.trans hf3 (fun k hk => .inr (by rw [hk]; exact HB.out.2.2.size))
  have hz3 : w2.heap.size = W3.heap.size := by rw [← hW3]; simp [World.setCell]
  rw [hW3]
  have HB3 := Lib.hid hb3; have HS3 := Lib.hid hs3; have HF3 := Lib.hid hF3; have HZ := Lib.hid hz3
  have hw1z : w.heap.size ≤ w1.heap.size := HB.out.2.2.size
  clear hW3 hb3 hf3 hs3 hF3 hF2 m4 m1 m2 m3 mo no HB2 HBB HS2 HB hf1 hf2 HM HCK hbk2 hz3
  go_loopw [37] (fun iv wr => ∃ (k : Nat) (ao : Option Addr) (co : Nat), k ≤ ns.length ∧ iv = .int .i64 k ∧ Hid (wr.heap[w1.heap.size]? = some (.cells #[.int .u8 3, .int .u32 0, .int .u64 st, .slice ak2 ks.length ck2, .slice ao k co, .string ⟨#[]⟩, .int .u32 0, .int .u32 0, .int .u64 0] 82 (0, 0))) ∧
      wr.ownsRow w2.heap.size 97 2 (.slice ao k co) k (((ns.take k).map fun r => (⟨r.pred, r.turn⟩ : Nd)).flatMap Nd.enc) ∧ Fr (fun b => b = w1.heap.size) W3 wr) (fun iv _ => ns.length - (intOf iv).toNat)
  case atStart => exact ⟨0, none, 0, Nat.zero_le _, rfl, HB3.out, World.ownsRow_nil _ _ _ _, Fr.refl _ _⟩
  case round =>
    obtain ⟨k, ao, co, hk, rfl, hbo, hrow, hfr⟩ := hrel
    have hwsz := hfr.size
    have hbl := lt_of_block hbo.out
    have HBO := Lib.hid hbo.out
    have hmo : ∀ ob i, (wr.alloc ob).cell? ⟨w1.heap.size, i, none⟩ = _ := fun ob i => (box_cells ((Below.heap_alloc wr ob _ hbl).trans hbo.out)).1 i
    obtain ⟨mb, -, -⟩ := box_cells hbo.out
    clear hbo
    by_cases hlt : k < ns.length
    · obtain rfl := n3 (by omega)
      have hc := HC.out k hlt
      have hbn : bn < w.heap.size := lt_of_cell (p := ⟨bn, offn + k * 3 + 0, none⟩) (hc 0 (by omega))
      have hts : ((ns.take (k + 1)).map fun r => (⟨r.pred, r.turn⟩ : Nd)).flatMap Nd.enc = ((ns.take k).map fun r => (⟨r.pred, r.turn⟩ : Nd)).flatMap Nd.enc ++ [.string ns[k].pred, .int .u64 ns[k].turn] := by
        rw [List.take_succ_eq_append_getElem hlt, List.map_append, List.map_cons, List.map_nil, flat_snoc]; rfl
      obtain ⟨x, hx⟩ : ∃ x, ns[k] = x := ⟨_, rfl⟩
      simp only [hx] at hts hc
      obtain ⟨c0, c1, c2⟩ := rt_cells (W := w) hc
      have hcc : ∀ (i : Nat) (u : Value), w.cell? ⟨bn, i, none⟩ = some u → wr.cell? ⟨bn, i, none⟩ = some u := fun i u hu => hfr.cell (p := ⟨bn, i, none⟩) (by show ¬ bn = _; omega) (HF3.out.cell id hu)
      replace c0 := hcc _ _ c0; replace c1 := hcc _ _ c1; replace c2 := hcc _ _ c2
      obtain ⟨xp, xg, xt⟩ := x
      simp only at hts c0 c1 c2
      have hki : (k : Int) < (ns.length : Int) := by omega
      have hnb : (Value.slice ao k co).ownBlock ≠ some w1.heap.size := fun e => by have h1 := (hrow.lt _ e).1; have h2 := HZ.out; have h3 := hol; omega
      have hz2w : w2.heap.size ≤ wr.heap.size := by have := HZ.out; omega
      have HTS := Lib.hid hts; have HROW := Lib.hid hrow; have HF := Lib.hid hfr; have HNB := Lib.hid hnb
      clear hts hrow hfr hc hx hcc hnb
      go_wp2_with (at_builtin; go_loud (refine wpList_append_lies _ rfl _ _ 80 rfl w2.heap.size 97 i0 (.agg #[.string ⟨#[]⟩, .int .u64 0]) 2 24 Tryz.underlying80 hi hz0 hz1 hz2 rfl (by decide) (.slice ao k co) (k) _ rfl ((HROW.out.alloc _).alloc _) ⟨wr.heap.size + 1, 0, none⟩ 1 1 ([.string xp, .int .u64 xt]) rfl rfl (World.news_of_block (cs := ([.string xp, .int .u64 xt]).toArray) (t := 97) (fr := (0, 0)) (heap_alloc2_new wr _ _)) (by simp [Value.oneCell']) (by omega) (by unfold maxLen; omega) (by omega) (by simp; omega) (wr.heap.size + 2) (by simp) ?_); intro g gc w5 hown hgrow hfresh hlt1; go_loud (have hbw := (hgrow.block w1.heap.size (by simp; omega) (fun e => HNB.out e.symm)).trans ((Below.heap_alloc _ _ _ (by simp; omega)).trans ((Below.heap_alloc _ _ _ hbl).trans HBO.out)); obtain ⟨m7, n7, hl7⟩ := box_cells hbw; have HBW := Lib.hid hbw; clear hbw))
      go_roundw
      case rel =>
        have hbs := box_set (i := 4) (v := .slice (some ⟨g, 0, none⟩) (k + 1) gc) HBW.out
        simp only [List.setIfInBounds_toArray, List.set_cons_zero, List.set_cons_succ] at hbs
        refine ⟨k + 1, some ⟨g, 0, none⟩, gc, by omega, by go_num, hbs, ?_, ?_⟩
        · rw [HTS.out]
          exact ownsRow_same hown fun q e => heap_setCell_other _ _ _ _ (by have h1 := (hown.lt q e).1; show q ≠ w1.heap.size; omega)
        · exact (((HF.out.alloc _).alloc _).grown hgrow fun q e => .inr (by have h1 := (HROW.out.lt q e).1; have h2 := HZ.out; omega)).setCell (p := ⟨w1.heap.size, 4, none⟩) (.inl rfl) _
      case measure => simp [intOf]; omega
    · obtain rfl : k = ns.length := by omega
      rw [List.take_length] at hrow
      have hnl : (ns.map fun r => (⟨r.pred, r.turn⟩ : Nd)).length = ns.length := by simp
      rw [← hnl] at hrow
      obtain ⟨bb, hbb, hrows⟩ := rowsK_of_row (enc := Nd.enc) (n := 2) (fun _ => rfl) (by decide) hrow
      rw [hnl] at hrows
      have hs := strs_on HS3.out hfr (by show ¬ bk2 = w1.heap.size; omega)
      have HR := Lib.hid hrows; have HS := Lib.hid hs; have HF := Lib.hid (HF3.out.trans hfr fun q e => .inr (by omega))
      clear hrows hs hrow hfr hnl
      go_wp2
      go_ret
      exact ⟨_, rfl, outs_one (r := ⟨0, 3, 0, st, .slice ak2 ks.length ck2, .slice ao ns.length co, 0, 0, 0, .slice none 0 0⟩) (World.alloc_heap_new _ _) ⟨⟨rfl, rfl, rfl, rfl, rfl, rfl, rfl⟩, ⟨bk2, HS.out.fr0 ((Fr.refl _ _).alloc _)⟩, ⟨bb, Nds.fr0 HR.out ((Fr.refl _ _).alloc _)⟩, ⟨0, RowsK.nil _ _ _ _⟩⟩, HF.out.alloc _⟩

theorem xAgain_any (w : World) (v : Value) (t : Txn) (h : IsTxn w v t) (hv : Inv t) : Calls Tryz.prog 18 #[v] w fun e w' => ∃ v', e = .returned v' ∧ Outs w' v' (again t) ∧ Fr N0 w w' := by
  have hph : t.phase = 1 ∨ (t.phase = 2 ∨ t.phase = 6) ∨ (t.phase = 3 ∨ t.phase = 5) ∨ t.phase = 4 := by have := hv.phase; omega
  rcases hph with hp | hp | hp | hp
  · exact xAgain_p1 w v t h hv hp
  · exact xAgain_p2 w v t h hv hp
  · exact xAgain_p3 w v t h hv hp
  · cases hf : t.failed
    · exact xAgain_p4 w v t h hv hp hf
    · exact xAgain_p4f w v t h hv hp hf

end Go.Proofs.YthidminepegnoaaGreatDoor
