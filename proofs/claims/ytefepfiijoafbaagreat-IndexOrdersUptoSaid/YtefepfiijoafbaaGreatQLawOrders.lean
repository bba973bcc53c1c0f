/- The laws' arguments opened: numbers. IndexOrders, whole. IndexOrdersUptoSaid, proved where what is handed in is of bulk at most 1048576: the walk is lxOrders_any. Conditions: none but the row's own. -/
import Derived.Test.YtefepfiijoafbaaGreatRows
import Derived.WalkKit
import Derived.ProofKit
import Derived.OpenShut
import Derived.JoinedCond
import Derived.ShutString
import Derived.ChangeOld
import Derived.Below
import Derived.Test.YtefepfiijoafbaaGreatQArgC
import Derived.Test.YtefepfiijoafbaaGreatQLists
import Derived.Test.YtefepfiijoafbaaGreatQQuiet
import Derived.Test.YtefepfiijoafbaaGreatQROrd3
import Derived.Test.YtefepfiijoafbaaGreatQLy4
import Derived.Test.YtefepfiijoafbaaGreatQLy1
import Derived.Test.YtefepfiijoafbaaGreatQDelV
namespace Go.Proofs.YtefepfiijoafbaaGreat
open Go.RowKit Go.Shelf Go.Deep
set_option linter.unusedVariables false
set_option linter.unusedSimpArgs false
set_option maxRecDepth 100000
section
variable {H : Type} {enc : TypeId × Value → H} {w : World} {base : Nat} {sp : Nat → Bool} {held : Bool}
theorem open_nums {fuel : Nat} {cs : List Value} {x : DataW H × List MemPlace} (h : DataW.trod enc Tryz.prog w base sp held fuel 35 cs = some x) : ∃ b v l, cs = [v] ∧ Ints .u64 w b v l := by
  obtain ⟨b, v, l, e, ⟨a, off, cap, rfl, h1, h2, h3, h4, h5⟩, hG⟩ := open_rowsK (ec := enc4) (n := 1) (by decide) (fun _ => rfl) (fun u : Int => (Lit.int .u64 u).wf = true) Tryz.underlying35 cells_u64 (fun _ _ _ h => by
    obtain ⟨u, rfl, -, hw⟩ := DataW.trod_int Tryz.underlying33 h
    exact ⟨u, rfl, hw⟩) h
  refine ⟨b, _, l, e, a, off, cap, rfl, h1, h2, h3, h4, fun i hi => ?_, hG⟩
  have := h5 i hi 0 (by decide)
  simpa [enc4] using this
end
end Go.Proofs.YtefepfiijoafbaaGreat
namespace Go.Proofs.YtefepfiijoafbaaGreat
open Go.RowKit Go.Shelf Go.Maps Go.Lib
attribute [local go_sem] Oper.semAt_some
attribute [local irreducible] wpQuiet
set_option linter.unusedVariables false
set_option linter.unusedSimpArgs false

theorem run_append_nil_empty {P : Program} (w : World) (t ty e : TypeId) (i : TypeInfo) (ht : P.underlying t = some (.slice e)) (hi : P.info? e = some i) (a : Option Addr) (c : Nat) :
    (Builtin.append_ #[t, t] ty #[.slice none 0 0, .slice a 0 c]).run P w = .ok (.slice none 0 0) w := by
  cases a with
  | none =>
    simp [Builtin.append_, run_underlying ht, sizeOf, typeInfo, hi, Builtin.lenOf, Builtin.firstCells, storeCells]
  | some a =>
    have hf := run_firstCells_some (P := P) w i.size 0 a 0 c [] (by simp) (by simp)
    simp [Builtin.append_, run_underlying ht, sizeOf, typeInfo, hi, Builtin.lenOf, hf, storeCells]
theorem LOk.rk {s : Sch} {l : PL} {N : Nat} (h : LOk s l N) (t u : Int) (hu : (Lit.int .u64 u).wf = true) : (rkOf (haveAt l t) u).Ok := by
  have hn := wf_nn hu
  constructor
  · rw [rkOf_uid]; exact hn
  · unfold rkOf
    split
    · exact ⟨by simp, by simp⟩
    · rename_i v vs hv
      have := (h.val t (u := u) (v := v) (by rw [hv]; simp)).2.2.2.1
      simp only; omega
/-- What Order tells. -/
noncomputable def ordX (m : PL) (t : Int) (down : Bool) (us : List Int) : List Int := if ordR m.s.order m.s.list (decide (t < m.marked)) = 0 then ordL (nodeKey down (haveAt m t)) us else []
theorem ordR_zero {o l lt : Bool} (h : ordR o l lt = 0) : o = true ∧ l = false ∧ lt = false := by
  revert h; cases o <;> cases l <;> cases lt <;> simp [ordR]
section
variable {s : Sch} {m : PL} {N : Nat} (hK : LOk s m N) (t : Int) (down : Bool) (us : List Int) (hus : ∀ u ∈ us, (Lit.int .u64 u).wf = true) (hl : us.length ≤ 60)
include hK hus
theorem ordX_wf : ∀ x ∈ ordX m t down us, (Lit.int .u64 x).wf = true := fun x hx => by
  unfold ordX at hx
  split at hx
  · exact hus x (((ordL_law us fun x hx y hy e => nodeKey_inj (hK.rk t x (hus x hx)) (hK.rk t y (hus y hy)) e).2 x).1 hx)
  · cases hx
include hl
theorem iOrder_all (W : World) (R : Nat → Prop) (p : Nat) (h : IsPL W R p m) (hR : ∀ k, R k → k < W.heap.size) (hN : N ≤ 900000000) (b : Nat) (v : Value) (hv : RowsK enc4 1 W b v us) :
    Calls Tryz.prog 27 #[.pointer (some ⟨p, 0, none⟩), .int .u64 t, .bool down, v] W (NumsE W (ordX m t down us) (ordR m.s.order m.s.list (decide (t < m.marked)))) := by
  have hwf := ordX_wf hK t down us hus
  unfold ordX at hwf ⊢
  by_cases h0 : ordR m.s.order m.s.list (decide (t < m.marked)) = 0
  · obtain ⟨e1, e2, e3⟩ := ordR_zero h0
    rw [h0]
    rw [if_pos h0] at hwf
    rw [if_pos rfl]
    refine (iorder_any W R p m N h hR hK.at_ (by omega) t down b v us hv (by omega) (fun u hu => hK.rk t u (hus u hu)) e1 e2 (by simpa using e3)).mono fun e w' hh => ?_
    obtain ⟨v', xs, rfl, hr, ho, hf⟩ := hh
    obtain rfl := ordered_is (fun u hu => hK.rk t u (hus u hu)) ho
    exact numsE_row hr hwf hf
  · rw [if_neg h0]
    refine (iorder_no W R p m h hK.at_.pred t down v h0).mono fun e w' hh => ?_
    obtain ⟨rfl, hf⟩ := hh
    exact ⟨_, 0, rfl, Ints.nil _ _ _, hf⟩
theorem r19Order_all (W : World) (p : Nat) (a : Option Addr) (bc off cap : Nat) (h : XRead W p m a bc off cap) (hN : N ≤ 900000000) (b : Nat) (v : Value) (hv : Ints .u64 W b v us) :
    Calls Tryz.prog 28 #[.pointer (some ⟨p, 0, none⟩), .int .u64 t, .bool down, v] W (NumsE W (ordX m t down us) (ordR m.s.order m.s.list (decide (t < m.marked)))) := by
  have hwf := ordX_wf hK t down us hus
  unfold ordX at hwf ⊢
  by_cases h0 : ordR m.s.order m.s.list (decide (t < m.marked)) = 0
  · obtain ⟨e1, e2, e3⟩ := ordR_zero h0
    rw [h0]
    rw [if_pos h0] at hwf
    rw [if_pos rfl]
    refine (r19Order_any W p m a bc off cap N h hK.at_ hN hK.rises t down b v us hv (by omega) (fun u hu => hK.rk t u (hus u hu)) e1 e2 (by simpa using e3)).mono fun e w' hh => ?_
    obtain ⟨v', rfl, hr, hf⟩ := hh
    exact numsE_row hr hwf hf
  · rw [if_neg h0]
    refine (r19Order_no W p m a bc off cap h t down v h0).mono fun e w' hh => ?_
    obtain ⟨v', rfl, hr, hf⟩ := hh
    exact numsE_row hr (fun x hx => by cases hx) hf
end
set_option maxRecDepth 100000 in
set_option maxHeartbeats 8000000 in
theorem lxOrders_any (w : World) (s : Sch) (b : Nat) (v : Value) (cs : List CmV) (hcs : Cms w b v cs) (hn : cs.length ≤ 1500000) (mark t : Int) (hmk : 0 ≤ mark) (down : Bool) (ub : Nat) (uv : Value) (us : List Int) (hU : Ints .u64 w ub uv us) :
    Calls Tryz.prog 5 #[.agg s.enc.toArray, v, .int .u64 mark, .int .u64 t, .bool down, uv] w fun e w' => e = .returned (.bool true) ∧ Fr N0 w w' := by
  obtain ⟨i0, hi, hz0, hz1, hz2⟩ := info_parts ins4_info
  have hU0 := hU
  obtain ⟨ua, uoff, ucap, rfl, u1, u2, u3, u4, u5, u6⟩ := hU
  have hf0 : Fr N0 w (w.alloc (.cells s.enc.toArray 32)) := (Fr.refl _ _).alloc _
  have hb0 : (w.alloc (.cells s.enc.toArray 32)).heap[w.heap.size]? = some (.cells s.enc.toArray 32 (0, 0)) := World.alloc_heap_new w _
  have hls := fun W' (hf : Fr N0 w W') => lxLists_any W' s b v cs (hcs.fr hf) hn mark hmk
  have hsm := fun W' (hf : Fr N0 w W') => lxSmall_any W' b v cs (hcs.fr hf)
  obtain ⟨sc, hsc⟩ : ∃ sc, sc = s := ⟨_, rfl⟩
  have HSC := Lib.hid hsc
  have HLS0 : Hid (∀ W', Fr N0 w W' → Calls Tryz.prog 25 #[.agg s.enc.toArray, v, .int .u64 mark] W' (LsPost W' sc (512 * cs.length))) := by rw [hsc]; exact Lib.hid hls
  have HLS := HLS0
  obtain ⟨L, hL⟩ : ∃ L, cs.length = L := ⟨_, rfl⟩
  rw [hL] at HLS hn
  simp only [hL] at hsm
  obtain ⟨n, hnu⟩ : ∃ n, us.length = n := ⟨_, rfl⟩
  rw [hnu] at hU0 u1 u3 ⊢
  have HSM := Lib.hid hsm; have HF0 := Lib.hid hf0; have HB0 := Lib.hid hb0; have HLV := Lib.hid fun W => lxLives_any W; have HU := Lib.hid hU0; have HNU := Lib.hid hnu; have HU5 := Lib.hid u5; have HU6 := Lib.hid u6
  obtain ⟨sp, st, sl, se, sm, so, sr, sn⟩ := s
  simp only [Sch.enc] at HB0 HF0 HLS ⊢
  clear hls hsm hf0 hb0 hcs hL HLS0 hsc hU0 hnu u5 u6
  go_enter Tryz.func5, Tryz.ntmps5
  go_wp2_with fail
  refine (HLV.out _).mono ?_
  rintro e w1 ⟨rfl, hf1⟩
  have HF1 := Lib.hid (HF0.out.then0 hf1)
  have hb1 := (hf1.at (k := w.heap.size) id (lt_of_block HB0.out)).trans HB0.out
  obtain ⟨m1, n1, l1⟩ := box_cells hb1
  clear hf1 hb1
  go_wp2_with fail
  refine (HLS.out _ HF1.out).mono ?_
  rintro e w2 h
  rcases h with ⟨-, rfl, hf2⟩ | ⟨p1, p2, R1, R2, m, rfl, hS, hK⟩
  · have HF2 := Lib.hid (HF1.out.then0 hf2)
    clear hf2 m1 n1 l1
    go_wp2_with fail
    refine (HSM.out _ HF2.out).mono ?_
    rintro e w3 ⟨⟨r, rfl, -⟩, hf3⟩
    have HF3 := Lib.hid (HF2.out.then0 hf3)
    clear hf3
    cases r
    · go_wp2_with fail
      go_ret
      exact ⟨rfl, HF3.out⟩
    · by_cases h60 : 60 < n
      · have h60' : (60 : Int) < (n : Int) := by omega
        go_wp2_with fail
        go_ret
        exact ⟨rfl, HF3.out⟩
      · have h60' : ¬ (60 : Int) < (n : Int) := by omega
        go_wp2_with fail
        go_ret
        exact ⟨rfl, HF3.out⟩
  · have HF2 := Lib.hid (HF1.out.then0 hS.ll.2.2)
    have HS := Lib.hid hS; have HKK := Lib.hid hK
    obtain ⟨E, hE⟩ : ∃ E, ordR m.s.order m.s.list (decide (t < m.marked)) = E := ⟨_, rfl⟩
    obtain ⟨es, hes⟩ : ∃ es, ordX m t down us = es := ⟨_, rfl⟩
    have hN1 : 512 * L ≤ 900000000 := by omega
    have HE := Lib.hid hE; have HES := Lib.hid hes
    clear hS hK m1 n1 l1 hE hes
    go_wp2_with fail
    refine (HSM.out _ HF2.out).mono ?_
    rintro e w3 ⟨⟨r, rfl, -⟩, hf3⟩
    have HF3 := Lib.hid (HF2.out.then0 hf3); have HG3 := Lib.hid hf3
    clear hf3
    cases r
    · go_wp2_with fail
      go_ret
      exact ⟨rfl, HF3.out⟩
    · by_cases h60 : 60 < n
      · have h60' : (60 : Int) < (n : Int) := by omega
        go_wp2_with fail
        go_ret
        exact ⟨rfl, HF3.out⟩
      · have h60' : ¬ (60 : Int) < (n : Int) := by omega
        have hl60 : us.length ≤ 60 := by rw [HNU.out]; omega
        have H1 := Lib.hid fun (W' : World) (hf : Fr N0 w3 W') (gb : Nat) (v' : Value) (hr : RowsK enc4 1 W' gb v' us) => iOrder_all HKK.out t down us HU6.out hl60 W' R1 p1 ((HS.out.fr HG3.out).fr hf).ll.1 (fun k hk => (((HS.out.fr HG3.out).fr hf).ll.2.1 k hk).2) hN1 gb v' hr
        obtain ⟨xa, xbc, xoff, xcap, hX⟩ := HS.out.xx.read
        have H2 := Lib.hid fun (W' : World) (hf : Fr N0 w3 W') => r19Order_all HKK.out t down us HU6.out hl60 W' p2 xa xbc xoff xcap (hX.fr (HG3.out.then0 hf)) hN1 ub _ (HU.out.fr0 ((HF3.out.then0 hf)))
        simp only [HE.out, HES.out, HNU.out] at H1 H2
        clear hX
        by_cases h00 : n = 0
        · subst h00
          have hus0 : us = [] := List.eq_nil_of_length_eq_zero HNU.out
          have hrun := fun W ty => run_append_nil_empty (P := Tryz.prog) W 35 ty 33 i0 Tryz.underlying35 hi ua ucap
          have HRUN := Lib.hid hrun
          clear hrun
          go_wp2_with (at_builtin; go_loud (refine wpList_append_run _ rfl _ _ _ _ rfl _ _ rfl rfl (HRUN.out _ _) ?_))
          refine (H1.out _ (Fr.refl _ _) 0 _ (by rw [hus0]; exact RowsK.nil _ _ _ _)).mono ?_
          rintro e w4 ⟨v4, b4, rfl, hI4, hf4⟩
          have HI4 := Lib.hid hI4; have HG4 := Lib.hid hf4
          clear hI4 hf4
          go_wp2_with fail
          refine (H2.out _ HG4.out).mono ?_
          rintro e w5 ⟨v5, b5, rfl, hI5, hf5⟩
          have HI5 := Lib.hid hI5; have HG5 := Lib.hid (HG4.out.then0 hf5); have HJ4 := Lib.hid (HI4.out.fr0 hf5)
          clear hI5 hf5 H1 H2
          go_wp2_with fail
          refine (sameN_any _ _ _ _ _ _ HJ4.out HI5.out).mono ?_
          rintro e w6 ⟨rfl, hf6⟩
          have HG6 := Lib.hid (HG5.out.then0 hf6)
          clear hf6
          go_wp2_with fail
          have hw6 := HF3.out.then0 HG6.out
          refine (sameN_any w6 0 ub _ _ [] (Ints.nil _ _ _) (by have := HU.out.fr0 hw6; rw [hus0] at this; exact this)).mono ?_
          rintro e w7 ⟨rfl, hf7⟩
          have HG7 := Lib.hid (HF3.out.then0 (HG6.out.then0 hf7))
          clear hf7 hw6
          go_wp2_with fail
          go_ret
          exact ⟨rfl, HG7.out⟩
        · obtain rfl := u3 (by omega)
          have hown0 : w3.ownsRow w3.heap.size 33 1 (.slice none 0 0) 0 [] := World.ownsRow_nil _ _ _ _
          have hnews : ∀ j u, (us.map (Value.int .u64))[j]? = some u → w3.cell? ((⟨ub, uoff, none⟩ : Addr).add j) = some u := fun j u hj => by
            rw [List.getElem?_map] at hj
            by_cases hjl : j < us.length
            · rw [List.getElem?_eq_getElem hjl] at hj
              simp at hj; subst hj
              rw [addr_add0]
              exact HF3.out.cell id (HU5.out j hjl)
            · rw [List.getElem?_eq_none (by omega)] at hj; cases hj
          have hone : ∀ u ∈ us.map (Value.int .u64), u.oneCell' = true := fun u hu => by
            obtain ⟨x, -, rfl⟩ := List.mem_map.1 hu; rfl
          have hlm : (us.map (Value.int .u64)).length = n * 1 := by rw [List.length_map, HNU.out, Nat.mul_one]
          have HNW := Lib.hid hnews; have HON := Lib.hid hone; have HLM := Lib.hid hlm
          clear hnews hone hlm
          go_wp2_with (at_builtin; go_loud (refine wpList_append_lies _ rfl _ _ 35 rfl w3.heap.size 33 i0 (.int .u64 0) 1 8 Tryz.underlying35 hi hz0 hz1 hz2 rfl (by decide) (.slice none 0 0) 0 _ rfl hown0 ⟨ub, uoff, none⟩ n ucap (us.map (Value.int .u64)) rfl HLM.out HNW.out HON.out (by omega) (by unfold maxLen; omega) (by omega) (Nat.le_refl _) w3.heap.size rfl ?_); intro g1 cap1 w3' hown3 hgrow3 hfresh3 hlt3)
          have hfa : Fr N0 w3 w3' := (Fr.refl N0 w3).grown hgrow3 fun q e => by cases e
          have hrow3 : w3'.ownsRow w3.heap.size 33 1 (.slice (some ⟨g1, 0, none⟩) (0 + n) cap1) us.length (us.map (Value.int .u64)) := by
            have h := hown3; rw [List.nil_append] at h; rw [HNU.out]; simpa using h
          have hrow4 : w3'.ownsRow w3.heap.size 33 1 (.slice (some ⟨g1, 0, none⟩) (0 + n) cap1) us.length (us.flatMap enc4) := by rw [enc4_map]; exact hrow3
          obtain ⟨gb, -, hrk⟩ := rowsK_of_row (enc := enc4) (n := 1) (fun _ => rfl) (by decide) hrow4
          obtain ⟨ib, -, hIi⟩ := ints_rowH hrow3 HU6.out
          have HRK := Lib.hid hrk; have HII := Lib.hid hIi; have HFA := Lib.hid hfa
          simp only [Nat.zero_add] at HRK HII
          clear hown3 hgrow3 hfresh3 hrow3 hrow4 hrk hIi hfa hown0
          refine (H1.out _ HFA.out gb _ HRK.out).mono ?_
          rintro e w4 ⟨v4, b4, rfl, hI4, hf4⟩
          have HI4 := Lib.hid hI4; have HG4 := Lib.hid (HFA.out.then0 hf4); have HII4 := Lib.hid (HII.out.fr0 hf4)
          clear hI4 hf4
          go_wp2_with fail
          refine (H2.out _ HG4.out).mono ?_
          rintro e w5 ⟨v5, b5, rfl, hI5, hf5⟩
          have HI5 := Lib.hid hI5; have HG5 := Lib.hid (HG4.out.then0 hf5); have HJ4 := Lib.hid (HI4.out.fr0 hf5); have HII5 := Lib.hid (HII4.out.fr0 hf5)
          clear hI5 hf5 H1 H2
          go_wp2_with fail
          refine (sameN_any _ _ _ _ _ _ HJ4.out HI5.out).mono ?_
          rintro e w6 ⟨rfl, hf6⟩
          have HG6 := Lib.hid (HG5.out.then0 hf6); have HII6 := Lib.hid (HII5.out.fr0 hf6)
          clear hf6
          go_wp2_with fail
          refine (sameN_any _ _ _ _ _ _ HII6.out (HU.out.fr0 (HF3.out.then0 HG6.out))).mono ?_
          rintro e w7 ⟨rfl, hf7⟩
          have HG7 := Lib.hid (HF3.out.then0 (HG6.out.then0 hf7))
          clear hf7
          go_wp2_with fail
          go_ret
          exact ⟨rfl, HG7.out⟩
end Go.Proofs.YtefepfiijoafbaaGreat
namespace Go.Proofs.YtefepfiijoafbaaGreat.indexOrders
open Go.ChangeShapes Go.WideShapes Go.ChangeAt Go.RowKit Go.Deep
open Go.ChangeMaps (open_string shut_string)
set_option linter.unusedVariables false

theorem own : ownKnob Tryz.prog.godebug = none := by kernel_rfl
theorem laidOut : laidOutB Tryz.prog = true := by kernel_rfl
theorem one_le {H : Type} (d : DataW H) : 1 ≤ Rows.uptoBulk d := by
  cases d with
  | lit l => cases l <;> simp [Rows.uptoBulk]
  | nil => simp [Rows.uptoBulk]
  | ptr d => simp [Rows.uptoBulk]
  | slice elems spare => simp [Rows.uptoBulk]
  | agg parts => simp [Rows.uptoBulk]
  | iface t d => simp [Rows.uptoBulk]
  | map entries => simp [Rows.uptoBulk]
  | held h => simp [Rows.uptoBulk]
theorem length_le {H : Type} (l : List (DataW H)) : l.length ≤ Rows.uptoBulkAll l := by
  induction l with
  | nil => simp [Rows.uptoBulkAll]
  | cons x r ih => have := one_le x; simp only [Rows.uptoBulkAll, List.length_cons]; omega
/-- The commits are no more than what is handed in. -/
theorem cms_bulk {H : Type} {enc : TypeId × Value → H} {w : World} {base : Nat} {sp : Nat → Bool} {held : Bool} {fuel : Nat} {a : Option Addr} {len cap : Nat} {x : DataW H × List MemPlace} (h : DataW.trod enc Tryz.prog w base sp held fuel 36 [.slice a len cap] = some x) : len ≤ Rows.uptoBulk x.1 := by
  rcases open_slice Tryz.underlying36 h with ⟨e, -⟩ | ⟨a', len', cap', m, n, D, Pl, e, -, -, -, -, rfl, -⟩
  · simp at e; omega
  · simp at e
    obtain ⟨-, rfl, -⟩ := e
    have := length_le ((List.range len).map D)
    simp only [List.length_map, List.length_range] at this
    simp only [Rows.uptoBulk]
    omega

set_option maxRecDepth 100000 in
theorem lifted (os : Os) (started : os.Started) (H : Type) (enc : TypeId × Value → H) (F : Stop.Interp) :
    ReturnsInHanded {} Tryz.checked os 5 .any ((Rows.OpenSpec.upto Rows.indexOrdersSpec).pre6 enc Tryz.prog Tryz.f5 Rows.indexOrdersUptoRow.domain false) (((Rows.OpenSpec.upto Rows.indexOrdersSpec).at F).post enc Tryz.prog Tryz.f5 false true false false) := by
  refine returnsInHanded_of_cond (C := Tryz.checked) (s := Rows.OpenSpec.upto Rows.indexOrdersSpec) (k := Rows.uptoSmall) rfl own started (by kernel_rfl) Tryz.func5
    (OpenSpec.witness (enc := enc) (C := Tryz.checked) (s := Rows.OpenSpec.upto Rows.indexOrdersSpec) (k := Rows.uptoSmall) rfl false ⟨#[], #[.agg #[.string ⟨#[]⟩, .int .u8 0, .bool false, .bool false, .bool false, .bool false, .bool false, .bool false], .slice none 0 0, .int .u64 0, .int .u64 0, .bool false, .slice none 0 0], []⟩ 8 (by kernel_rfl) (by kernel_rfl) (by kernel_rfl)
      (x := ([.agg [.lit (.string []), .lit (.int .u8 0), .lit (.bool false), .lit (.bool false), .lit (.bool false), .lit (.bool false), .lit (.bool false), .lit (.bool false)], .nil, .lit (.int .u64 0), .lit (.int .u64 0), .lit (.bool false), .nil], [], [])) (by kernel_rfl) rfl (by kernel_rfl)) ?_
  intro W base args ds gs before hval0 hW hcnd hkk _
  have hval : ∀ (j : Nat) t v, Tryz.f5.params[j]? = some t → args[j]? = some v → Value.okWide Tryz.prog W .any base t v := hval0
  have hW' := hW
  obtain ⟨p, q, hA0, hV, rfl, hfz, hnd⟩ := hW
  have hA : DataW.TrodAll enc Tryz.prog W 0 (fun _ => true) true Tryz.f5.params.toList args.toList ds p := hA0
  rw [Tryz.params5] at hA hval
  obtain ⟨v0, vs0, d0, ds0, p0, q0, hargs, rfl, rfl, h0, r0⟩ := trodAll_cons hA
  obtain ⟨v1, vs1, d1, ds1, p1, q1, rfl, rfl, rfl, h1, r1⟩ := trodAll_cons r0
  obtain ⟨v2, vs2, d2, ds2, p2, q2, rfl, rfl, rfl, h2, r2⟩ := trodAll_cons r1
  obtain ⟨v3, vs3, d3, ds3, p3, q3, rfl, rfl, rfl, h3, r3⟩ := trodAll_cons r2
  obtain ⟨v4, vs4, d4, ds4, p4, q4, rfl, rfl, rfl, h4, r4⟩ := trodAll_cons r3
  obtain ⟨v5, vs5, d5, ds5, p5, q5, rfl, rfl, rfl, h5, r5⟩ := trodAll_cons r4
  obtain ⟨rfl, rfl, rfl⟩ := trodAll_nil r5
  obtain rfl : args = #[v0, v1, v2, v3, v4, v5] := by cases args; simp_all
  obtain ⟨rfl, rfl⟩ := trodVars_none hV
  obtain ⟨ss0, rfl, hsz0⟩ := okWide_struct Tryz.underlying32 (hval 0 32 v0 rfl rfl)
  obtain ⟨a1, len1, cap1, rfl⟩ := okWide_slice Tryz.underlying36 (hval 1 36 v1 rfl rfl)
  obtain ⟨n2, rfl⟩ := okWide_int Tryz.underlying33 (hval 2 33 v2 rfl rfl)
  obtain ⟨n3, rfl⟩ := okWide_int Tryz.underlying33 (hval 3 33 v3 rfl rfl)
  obtain ⟨b4, rfl⟩ := okWide_bool Tryz.underlying4 (hval 4 4 v4 rfl rfl)
  obtain ⟨a5, len5, cap5, rfl⟩ := okWide_slice Tryz.underlying35 (hval 5 35 v5 rfl rfl)
  have k0 := h0
  have k1 := h1
  have k2 := h2
  have k3 := h3
  have k4 := h4
  have k5 := h5
  have lt0 : ∀ x ∈ p0, x.block < W.heap.size := by obtain ⟨m, hm⟩ := k0; exact DataW.trod_lt m _ _ _ hm
  have lt1 : ∀ x ∈ p1, x.block < W.heap.size := by obtain ⟨m, hm⟩ := k1; exact DataW.trod_lt m _ _ _ hm
  have lt2 : ∀ x ∈ p2, x.block < W.heap.size := by obtain ⟨m, hm⟩ := k2; exact DataW.trod_lt m _ _ _ hm
  have lt3 : ∀ x ∈ p3, x.block < W.heap.size := by obtain ⟨m, hm⟩ := k3; exact DataW.trod_lt m _ _ _ hm
  have lt4 : ∀ x ∈ p4, x.block < W.heap.size := by obtain ⟨m, hm⟩ := k4; exact DataW.trod_lt m _ _ _ hm
  have lt5 : ∀ x ∈ p5, x.block < W.heap.size := by obtain ⟨m, hm⟩ := k5; exact DataW.trod_lt m _ _ _ hm
  obtain ⟨s, hs⟩ : ∃ s : Sch, ss0 = s.enc.toArray := by
    obtain ⟨fuel, hf⟩ := h0
    obtain ⟨s, hcs, -⟩ := open_sch hf
    exact ⟨s, by simp [Value.cells] at hcs; rw [← hcs]⟩
  subst hs
  have hlen : len1 ≤ 1048576 := by
    obtain ⟨fuel, hf⟩ := h1
    have h1 : len1 ≤ Rows.uptoBulk d1 := cms_bulk (show DataW.trod enc Tryz.prog W 0 (fun _ => true) true fuel 36 [.slice a1 len1 cap1] = some (d1, p1) from hf)
    have h2 := of_decide_eq_true hkk
    simp only [List.append_nil, Rows.uptoBulkAll] at h2
    omega
  obtain ⟨b, cs, hC⟩ : ∃ b cs, Cms W b (.slice a1 len1 cap1) cs := by
    obtain ⟨fuel, hf⟩ := h1
    obtain ⟨b, v, cs, hcs, hC⟩ := open_cms hf
    simp [Value.cells] at hcs
    subst hcs
    exact ⟨b, cs, hC⟩
  have hcl : cs.length = len1 := by
    obtain ⟨_, _, _, e, -⟩ := hC.rows
    injection e with _ e _
    exact e.symm
  have w2 : (Lit.int .u64 n2).wf = true := by
    obtain ⟨fuel, hf⟩ := h2
    obtain ⟨x, e, -, hw⟩ := DataW.trod_int Tryz.underlying33 hf
    simp [Value.cells] at e
    subst e
    exact hw
  have w3 : (Lit.int .u64 n3).wf = true := by
    obtain ⟨fuel, hf⟩ := h3
    obtain ⟨x, e, -, hw⟩ := DataW.trod_int Tryz.underlying33 hf
    simp [Value.cells] at e
    subst e
    exact hw
  obtain ⟨ub, us, hU⟩ : ∃ ub us, Ints .u64 W ub (.slice a5 len5 cap5) us := by
    obtain ⟨fuel, hf⟩ := h5
    obtain ⟨ub, v, us, hcs, hU⟩ := open_nums hf
    simp [Value.cells] at hcs
    subst hcs
    exact ⟨ub, us, hU⟩
  clear hA0 hval0
  refine (lxOrders_any W s b _ cs hC (by omega) n2 n3 (wf_nat w2).1 b4 ub _ us hU).mono fun e W' ⟨he, hfr⟩ => ?_
  have bel := hfr.below0
  subst he
  exact ⟨_, rfl, _, _, _, [], _, [], hW', trodAll_mk1 (shut_bool Tryz.underlying4 _), (trodAll_cons_mk (Below.trod laidOut (by kernel_rfl) (of_decide_eq_true (by kernel_rfl)) k0 bel lt0) (trodAll_cons_mk (Below.trod laidOut (by kernel_rfl) (of_decide_eq_true (by kernel_rfl)) k1 bel lt1) (trodAll_cons_mk (Below.trod laidOut (by kernel_rfl) (of_decide_eq_true (by kernel_rfl)) k2 bel lt2) (trodAll_cons_mk (Below.trod laidOut (by kernel_rfl) (of_decide_eq_true (by kernel_rfl)) k3 bel lt3) (trodAll_cons_mk (Below.trod laidOut (by kernel_rfl) (of_decide_eq_true (by kernel_rfl)) k4 bel lt4) (trodAll_cons_mk (Below.trod laidOut (by kernel_rfl) (of_decide_eq_true (by kernel_rfl)) k5 bel lt5) trodAll_mk0)))))), rfl, bel.frame _, fun h => by cases h⟩

theorem over : Rows.indexOrdersUptoRow.holds Tryz.pinned (Rows.OpenSpec.upto Rows.indexOrdersSpec) :=
  OpenClaim.holds_of_cond 5 Tryz.f5 rfl rfl rfl rfl rfl rfl rfl ⟨rfl, rfl, rfl, rfl, rfl⟩ rfl rfl rfl rfl rfl (by kernel_rfl) Tryz.func5 (by kernel_rfl)
    (of_decide_eq_true (by kernel_rfl)) (by unfold Func.isWrapper; first | (rw [if_pos (by decide +kernel)]; kernel_rfl) | (rw [if_neg (by decide +kernel)]; exact ⟨rfl, rfl⟩))
    (fun os started H enc _ F => lifted os started H enc F)

/-- THE STATEMENT -/
theorem proved : Rows.IndexOrdersUptoSaid := over
#print axioms proved
end Go.Proofs.YtefepfiijoafbaaGreat.indexOrders
