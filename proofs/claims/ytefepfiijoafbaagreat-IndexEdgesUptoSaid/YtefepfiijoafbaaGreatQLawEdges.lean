/- IndexEdges, whole. IndexEdgesUptoSaid, proved where what is handed in is of bulk at most 1048576: the walk is lxEdges_any. Conditions: none but the row's own. -/
import Derived.Test.YtefepfiijoafbaaGreatRows
import Derived.WalkKit
import Derived.ProofKit
import Derived.OpenShut
import Derived.JoinedCond
import Derived.ShutString
import Derived.ChangeOld
import Derived.Below
import Derived.Test.YtefepfiijoafbaaGreatQLists
import Derived.Test.YtefepfiijoafbaaGreatQEEdges
import Derived.Test.YtefepfiijoafbaaGreatQLy4
import Derived.Test.YtefepfiijoafbaaGreatQLy1
import Derived.Test.YtefepfiijoafbaaGreatQArgC
namespace Go.Proofs.YtefepfiijoafbaaGreat
open Go.RowKit Go.Shelf Go.Maps
attribute [local go_sem] Oper.semAt_some
attribute [local irreducible] wpQuiet
set_option linter.unusedVariables false
set_option linter.unusedSimpArgs false

set_option maxRecDepth 100000 in
set_option maxHeartbeats 8000000 in
theorem lxEdges_any (w : World) (s : Sch) (b : Nat) (v : Value) (cs : List CmV) (hcs : Cms w b v cs) (hn : cs.length ≤ 1500000) (mark t u : Int) (hmk : 0 ≤ mark) (hu : (Lit.int .u64 u).wf = true) (back : Bool) :
    Calls Tryz.prog 9 #[.agg s.enc.toArray, v, .int .u64 mark, .int .u64 t, .bool back, .int .u64 u] w fun e w' => e = .returned (.bool true) ∧ Fr N0 w w' := by
  have hf0 : Fr N0 w (w.alloc (.cells s.enc.toArray 32)) := (Fr.refl _ _).alloc _
  have hb0 : (w.alloc (.cells s.enc.toArray 32)).heap[w.heap.size]? = some (.cells s.enc.toArray 32 (0, 0)) := World.alloc_heap_new w _
  have hls := fun W' (hf : Fr N0 w W') => lxLists_any W' s b v cs (hcs.fr hf) hn mark hmk
  have hsm := fun W' (hf : Fr N0 w W') => lxSmall_any W' b v cs (hcs.fr hf)
  obtain ⟨sc, hsc⟩ : ∃ sc, sc = s := ⟨_, rfl⟩
  have HSC := Lib.hid hsc
  have HLS0 : Hid (∀ W', Fr N0 w W' → Calls Tryz.prog 25 #[.agg s.enc.toArray, v, .int .u64 mark] W' (LsPost W' sc (512 * cs.length))) := by rw [hsc]; exact Lib.hid hls
  have HLS := HLS0
  obtain ⟨L, hL⟩ : ∃ L, cs.length = L := ⟨_, rfl⟩
  rw [hL] at HLS hn
  simp only [hL] at hsm
  have HSM := Lib.hid hsm; have HF0 := Lib.hid hf0; have HB0 := Lib.hid hb0; have HLV := Lib.hid fun W => lxLives_any W
  obtain ⟨sp, st, sl, se, sm, so, sr, sn⟩ := s
  simp only [Sch.enc] at HB0 HF0 HLS ⊢
  clear hls hsm hf0 hb0 hcs hL HLS0 hsc
  go_enter Tryz.func9, Tryz.ntmps9
  go_wp2_with fail
  refine (HLV.out _).mono ?_
  rintro e w1 ⟨rfl, hf1⟩
  have HF1 := Lib.hid (HF0.out.then0 hf1)
  have hb1 := (hf1.at (k := w.heap.size) id (lt_of_block HB0.out)).trans HB0.out
  obtain ⟨m1, n1, l1⟩ := box_cells hb1
  clear hf1 hb1
  go_wp2_with fail
  refine (HLS.out _ HF1.out).mono ?_
  rintro e w2 h
  rcases h with ⟨-, rfl, hf2⟩ | ⟨p1, p2, R1, R2, m, rfl, hS, hK⟩
  · have HF2 := Lib.hid (HF1.out.then0 hf2)
    clear hf2 m1 n1 l1
    go_wp2_with fail
    refine (HSM.out _ HF2.out).mono ?_
    rintro e w3 ⟨⟨r, rfl, -⟩, hf3⟩
    have HF3 := Lib.hid (HF2.out.then0 hf3)
    clear hf3
    cases r
    all_goals
      go_wp2_with fail
      go_ret
      exact ⟨rfl, HF3.out⟩
  · have HF2 := Lib.hid (HF1.out.then0 hS.ll.2.2)
    obtain ⟨bs, hbs⟩ := exists_backs m t u
    have hN1 : 512 * L ≤ 900000000 := by omega
    have h1 := fun W' (hf : Fr N0 w2 W') => iCount_any W' R1 p1 m _ (hS.fr hf).ll.1 hK.at_ (by omega) t u hu bs hbs back
    have h3 := fun W' (hf : Fr N0 w2 W') => iEdges_any W' R1 p1 m _ (hS.fr hf).ll.1 hK.at_ (by omega) t u hu bs hbs back
    obtain ⟨xa, xbc, xoff, xcap, hX⟩ := hS.xx.read
    have h2 := fun W' (hf : Fr N0 w2 W') => r19Count_any W' p2 m xa xbc xoff xcap _ (hX.fr hf) hK.at_ hN1 hK.rises t u bs hbs back
    have h4 := fun W' (hf : Fr N0 w2 W') => r19Edges_any W' p2 m xa xbc xoff xcap _ (hX.fr hf) hK.at_ hN1 hK.rises t u bs hbs back
    obtain ⟨E1, hE1⟩ : ∃ E1, edgedR false back (m.s.ty != 4) m.s.rev (decide (t < m.marked)) = E1 := ⟨_, rfl⟩
    obtain ⟨E2, hE2⟩ : ∃ E2, edgedR true back (m.s.ty != 4) m.s.rev (decide (t < m.marked)) = E2 := ⟨_, rfl⟩
    obtain ⟨c, hc⟩ : ∃ c, cntR m t u bs back = c := ⟨_, rfl⟩
    obtain ⟨es, hes⟩ : ∃ es, edgesR m t u bs back = es := ⟨_, rfl⟩
    simp only [hE1, hc] at h1 h2
    simp only [hE2, hes] at h3 h4
    have H1 := Lib.hid h1; have H2 := Lib.hid h2; have H3 := Lib.hid h3; have H4 := Lib.hid h4
    clear h1 h2 h3 h4 hS hK hX hbs m1 n1 l1 hE1 hE2 hc hes
    go_wp2_with fail
    refine (HSM.out _ HF2.out).mono ?_
    rintro e w3 ⟨⟨r, rfl, -⟩, hf3⟩
    have HF3 := Lib.hid (HF2.out.then0 hf3); have HG3 := Lib.hid hf3
    clear hf3
    cases r
    · go_wp2_with fail
      go_ret
      exact ⟨rfl, HF3.out⟩
    · go_wp2_with fail
      refine (H1.out _ HG3.out).mono ?_
      rintro e w4 ⟨rfl, hf4⟩
      have HG4 := Lib.hid (HG3.out.then0 hf4)
      clear hf4
      go_wp2_with fail
      refine (H2.out _ HG4.out).mono ?_
      rintro e w5 ⟨rfl, hf5⟩
      have HG5 := Lib.hid (HG4.out.then0 hf5)
      clear hf5
      go_wp2_with fail
      refine (H3.out _ HG5.out).mono ?_
      rintro e w6 ⟨v6, b6, rfl, hI6, hf6⟩
      have HG6 := Lib.hid (HG5.out.then0 hf6); have HI6 := Lib.hid hI6
      clear hf6 hI6
      go_wp2_with fail
      refine (H4.out _ HG6.out).mono ?_
      rintro e w7 ⟨v7, b7, rfl, hI7, hf7⟩
      have HG7 := Lib.hid (HG6.out.then0 hf7); have HI7 := Lib.hid hI7; have HJ6 := Lib.hid (HI6.out.fr0 hf7)
      clear hf7 hI7 H1 H2 H3 H4
      go_wp2_with fail
      refine (sameN_any _ _ _ _ _ _ HJ6.out HI7.out).mono ?_
      rintro e w8 ⟨rfl, hf8⟩
      have HG8 := Lib.hid (HF2.out.then0 (HG7.out.then0 hf8))
      clear hf8
      go_wp2_with fail
      go_ret
      exact ⟨rfl, HG8.out⟩
end Go.Proofs.YtefepfiijoafbaaGreat
namespace Go.Proofs.YtefepfiijoafbaaGreat.indexEdges
open Go.ChangeShapes Go.WideShapes Go.ChangeAt Go.RowKit Go.Deep
open Go.ChangeMaps (open_string shut_string)
set_option linter.unusedVariables false

theorem own : ownKnob Tryz.prog.godebug = none := by kernel_rfl
theorem laidOut : laidOutB Tryz.prog = true := by kernel_rfl
theorem one_le {H : Type} (d : DataW H) : 1 ≤ Rows.uptoBulk d := by
  cases d with
  | lit l => cases l <;> simp [Rows.uptoBulk]
  | nil => simp [Rows.uptoBulk]
  | ptr d => simp [Rows.uptoBulk]
  | slice elems spare => simp [Rows.uptoBulk]
  | agg parts => simp [Rows.uptoBulk]
  | iface t d => simp [Rows.uptoBulk]
  | map entries => simp [Rows.uptoBulk]
  | held h => simp [Rows.uptoBulk]
theorem length_le {H : Type} (l : List (DataW H)) : l.length ≤ Rows.uptoBulkAll l := by
  induction l with
  | nil => simp [Rows.uptoBulkAll]
  | cons x r ih => have := one_le x; simp only [Rows.uptoBulkAll, List.length_cons]; omega
/-- The commits are no more than what is handed in. -/
theorem cms_bulk {H : Type} {enc : TypeId × Value → H} {w : World} {base : Nat} {sp : Nat → Bool} {held : Bool} {fuel : Nat} {a : Option Addr} {len cap : Nat} {x : DataW H × List MemPlace} (h : DataW.trod enc Tryz.prog w base sp held fuel 36 [.slice a len cap] = some x) : len ≤ Rows.uptoBulk x.1 := by
  rcases open_slice Tryz.underlying36 h with ⟨e, -⟩ | ⟨a', len', cap', m, n, D, Pl, e, -, -, -, -, rfl, -⟩
  · simp at e; omega
  · simp at e
    obtain ⟨-, rfl, -⟩ := e
    have := length_le ((List.range len).map D)
    simp only [List.length_map, List.length_range] at this
    simp only [Rows.uptoBulk]
    omega

set_option maxRecDepth 100000 in
theorem lifted (os : Os) (started : os.Started) (H : Type) (enc : TypeId × Value → H) (F : Stop.Interp) :
    ReturnsInHanded {} Tryz.checked os 9 .any ((Rows.OpenSpec.upto Rows.indexEdgesSpec).pre6 enc Tryz.prog Tryz.f9 Rows.indexEdgesUptoRow.domain false) (((Rows.OpenSpec.upto Rows.indexEdgesSpec).at F).post enc Tryz.prog Tryz.f9 false true false false) := by
  refine returnsInHanded_of_cond (C := Tryz.checked) (s := Rows.OpenSpec.upto Rows.indexEdgesSpec) (k := Rows.uptoSmall) rfl own started (by kernel_rfl) Tryz.func9
    (OpenSpec.witness (enc := enc) (C := Tryz.checked) (s := Rows.OpenSpec.upto Rows.indexEdgesSpec) (k := Rows.uptoSmall) rfl false ⟨#[], #[.agg #[.string ⟨#[]⟩, .int .u8 0, .bool false, .bool false, .bool false, .bool false, .bool false, .bool false], .slice none 0 0, .int .u64 0, .int .u64 0, .bool false, .int .u64 0], []⟩ 8 (by kernel_rfl) (by kernel_rfl) (by kernel_rfl)
      (x := ([.agg [.lit (.string []), .lit (.int .u8 0), .lit (.bool false), .lit (.bool false), .lit (.bool false), .lit (.bool false), .lit (.bool false), .lit (.bool false)], .nil, .lit (.int .u64 0), .lit (.int .u64 0), .lit (.bool false), .lit (.int .u64 0)], [], [])) (by kernel_rfl) rfl (by kernel_rfl)) ?_
  intro W base args ds gs before hval0 hW hcnd hkk _
  have hval : ∀ (j : Nat) t v, Tryz.f9.params[j]? = some t → args[j]? = some v → Value.okWide Tryz.prog W .any base t v := hval0
  have hW' := hW
  obtain ⟨p, q, hA0, hV, rfl, hfz, hnd⟩ := hW
  have hA : DataW.TrodAll enc Tryz.prog W 0 (fun _ => true) true Tryz.f9.params.toList args.toList ds p := hA0
  rw [Tryz.params9] at hA hval
  obtain ⟨v0, vs0, d0, ds0, p0, q0, hargs, rfl, rfl, h0, r0⟩ := trodAll_cons hA
  obtain ⟨v1, vs1, d1, ds1, p1, q1, rfl, rfl, rfl, h1, r1⟩ := trodAll_cons r0
  obtain ⟨v2, vs2, d2, ds2, p2, q2, rfl, rfl, rfl, h2, r2⟩ := trodAll_cons r1
  obtain ⟨v3, vs3, d3, ds3, p3, q3, rfl, rfl, rfl, h3, r3⟩ := trodAll_cons r2
  obtain ⟨v4, vs4, d4, ds4, p4, q4, rfl, rfl, rfl, h4, r4⟩ := trodAll_cons r3
  obtain ⟨v5, vs5, d5, ds5, p5, q5, rfl, rfl, rfl, h5, r5⟩ := trodAll_cons r4
  obtain ⟨rfl, rfl, rfl⟩ := trodAll_nil r5
  obtain rfl : args = #[v0, v1, v2, v3, v4, v5] := by cases args; simp_all
  obtain ⟨rfl, rfl⟩ := trodVars_none hV
  obtain ⟨ss0, rfl, hsz0⟩ := okWide_struct Tryz.underlying32 (hval 0 32 v0 rfl rfl)
  obtain ⟨a1, len1, cap1, rfl⟩ := okWide_slice Tryz.underlying36 (hval 1 36 v1 rfl rfl)
  obtain ⟨n2, rfl⟩ := okWide_int Tryz.underlying33 (hval 2 33 v2 rfl rfl)
  obtain ⟨n3, rfl⟩ := okWide_int Tryz.underlying33 (hval 3 33 v3 rfl rfl)
  obtain ⟨b4, rfl⟩ := okWide_bool Tryz.underlying4 (hval 4 4 v4 rfl rfl)
  obtain ⟨n5, rfl⟩ := okWide_int Tryz.underlying33 (hval 5 33 v5 rfl rfl)
  have k0 := h0
  have k1 := h1
  have k2 := h2
  have k3 := h3
  have k4 := h4
  have k5 := h5
  have lt0 : ∀ x ∈ p0, x.block < W.heap.size := by obtain ⟨m, hm⟩ := k0; exact DataW.trod_lt m _ _ _ hm
  have lt1 : ∀ x ∈ p1, x.block < W.heap.size := by obtain ⟨m, hm⟩ := k1; exact DataW.trod_lt m _ _ _ hm
  have lt2 : ∀ x ∈ p2, x.block < W.heap.size := by obtain ⟨m, hm⟩ := k2; exact DataW.trod_lt m _ _ _ hm
  have lt3 : ∀ x ∈ p3, x.block < W.heap.size := by obtain ⟨m, hm⟩ := k3; exact DataW.trod_lt m _ _ _ hm
  have lt4 : ∀ x ∈ p4, x.block < W.heap.size := by obtain ⟨m, hm⟩ := k4; exact DataW.trod_lt m _ _ _ hm
  have lt5 : ∀ x ∈ p5, x.block < W.heap.size := by obtain ⟨m, hm⟩ := k5; exact DataW.trod_lt m _ _ _ hm
  obtain ⟨s, hs⟩ : ∃ s : Sch, ss0 = s.enc.toArray := by
    obtain ⟨fuel, hf⟩ := h0
    obtain ⟨s, hcs, -⟩ := open_sch hf
    exact ⟨s, by simp [Value.cells] at hcs; rw [← hcs]⟩
  subst hs
  have hlen : len1 ≤ 1048576 := by
    obtain ⟨fuel, hf⟩ := h1
    have h1 : len1 ≤ Rows.uptoBulk d1 := cms_bulk (show DataW.trod enc Tryz.prog W 0 (fun _ => true) true fuel 36 [.slice a1 len1 cap1] = some (d1, p1) from hf)
    have h2 := of_decide_eq_true hkk
    simp only [List.append_nil, Rows.uptoBulkAll] at h2
    omega
  obtain ⟨b, cs, hC⟩ : ∃ b cs, Cms W b (.slice a1 len1 cap1) cs := by
    obtain ⟨fuel, hf⟩ := h1
    obtain ⟨b, v, cs, hcs, hC⟩ := open_cms hf
    simp [Value.cells] at hcs
    subst hcs
    exact ⟨b, cs, hC⟩
  have hcl : cs.length = len1 := by
    obtain ⟨_, _, _, e, -⟩ := hC.rows
    injection e with _ e _
    exact e.symm
  have w2 : (Lit.int .u64 n2).wf = true := by
    obtain ⟨fuel, hf⟩ := h2
    obtain ⟨x, e, -, hw⟩ := DataW.trod_int Tryz.underlying33 hf
    simp [Value.cells] at e
    subst e
    exact hw
  have w3 : (Lit.int .u64 n3).wf = true := by
    obtain ⟨fuel, hf⟩ := h3
    obtain ⟨x, e, -, hw⟩ := DataW.trod_int Tryz.underlying33 hf
    simp [Value.cells] at e
    subst e
    exact hw
  have w5 : (Lit.int .u64 n5).wf = true := by
    obtain ⟨fuel, hf⟩ := h5
    obtain ⟨x, e, -, hw⟩ := DataW.trod_int Tryz.underlying33 hf
    simp [Value.cells] at e
    subst e
    exact hw
  clear hA0 hval0
  refine (lxEdges_any W s b _ cs hC (by omega) n2 n3 n5 (wf_nat w2).1 w5 b4).mono fun e W' ⟨he, hfr⟩ => ?_
  have bel := hfr.below0
  subst he
  exact ⟨_, rfl, _, _, _, [], _, [], hW', trodAll_mk1 (shut_bool Tryz.underlying4 _), (trodAll_cons_mk (Below.trod laidOut (by kernel_rfl) (of_decide_eq_true (by kernel_rfl)) k0 bel lt0) (trodAll_cons_mk (Below.trod laidOut (by kernel_rfl) (of_decide_eq_true (by kernel_rfl)) k1 bel lt1) (trodAll_cons_mk (Below.trod laidOut (by kernel_rfl) (of_decide_eq_true (by kernel_rfl)) k2 bel lt2) (trodAll_cons_mk (Below.trod laidOut (by kernel_rfl) (of_decide_eq_true (by kernel_rfl)) k3 bel lt3) (trodAll_cons_mk (Below.trod laidOut (by kernel_rfl) (of_decide_eq_true (by kernel_rfl)) k4 bel lt4) (trodAll_cons_mk (Below.trod laidOut (by kernel_rfl) (of_decide_eq_true (by kernel_rfl)) k5 bel lt5) trodAll_mk0)))))), rfl, bel.frame _, fun h => by cases h⟩

theorem over : Rows.indexEdgesUptoRow.holds Tryz.pinned (Rows.OpenSpec.upto Rows.indexEdgesSpec) :=
  OpenClaim.holds_of_cond 9 Tryz.f9 rfl rfl rfl rfl rfl rfl rfl ⟨rfl, rfl, rfl, rfl, rfl⟩ rfl rfl rfl rfl rfl (by kernel_rfl) Tryz.func9 (by kernel_rfl)
    (of_decide_eq_true (by kernel_rfl)) (by unfold Func.isWrapper; first | (rw [if_pos (by decide +kernel)]; kernel_rfl) | (rw [if_neg (by decide +kernel)]; exact ⟨rfl, rfl⟩))
    (fun os started H enc _ F => lifted os started H enc F)

/-- THE STATEMENT -/
theorem proved : Rows.IndexEdgesUptoSaid := over
#print axioms proved
end Go.Proofs.YtefepfiijoafbaaGreat.indexEdges
