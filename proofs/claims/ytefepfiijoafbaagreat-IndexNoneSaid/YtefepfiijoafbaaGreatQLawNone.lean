/- IndexNone, whole. IndexNone, proved: the walk is lxNone_any (LxNone). Conditions: none but the row's own. -/
import Derived.Test.YtefepfiijoafbaaGreatRows
import Derived.WalkKit
import Derived.ProofKit
import Derived.OpenShut
import Derived.ShutString
import Derived.ChangeOld
import Derived.Below
import Derived.Test.YtefepfiijoafbaaGreatQLyN
import Derived.Test.YtefepfiijoafbaaGreatQLy4
import Derived.Test.YtefepfiijoafbaaGreatQLxFit
import Derived.Test.YtefepfiijoafbaaGreatQArgF
namespace Go.Proofs.YtefepfiijoafbaaGreat
open Go.RowKit Go.Shelf Go.Maps
attribute [local go_sem] Oper.semAt_some
attribute [local go_sem ↓] Go.wp_at_zero Go.wp_at_succ
attribute [local irreducible] wpQuiet
set_option linter.unusedVariables false
set_option linter.unusedSimpArgs false

theorem arrL_size : (Tryz.prog.info? 106).map (·.size) = some 2 := by kernel_rfl
theorem two_rowsN (W : World) (A : Obj) (old cs : Array Value) (t : TypeId) (V : World) (h : ((W.alloc A).alloc (.cells old t)).setRow (W.heap.size + 1) cs = V) : V.heap[W.heap.size]? = some A ∧ V.heap[W.heap.size + 1]? = some (.cells cs t (0, 0)) ∧ Fr N0 W V ∧ V.heap.size = W.heap.size + 2 := by
  subst h
  have h2 := setRow_heap _ _ _ cs _ _ (heap2_newX W A (.cells old t))
  have hf := fr_setRow ((W.alloc A).alloc (.cells old t)) (W.heap.size + 1) cs
  refine ⟨(hf.at (k := W.heap.size) (by show ¬ W.heap.size = _; omega) (by simp; omega)).trans ((Below.heap_alloc _ _ _ (by simp)).trans (World.alloc_heap_new W _)), h2, (((Fr.refl N0 W).alloc _).alloc _).trans hf fun k e => .inr (by rw [e]; omega), by simp [World.setRow]⟩
set_option maxRecDepth 100000 in
set_option maxHeartbeats 4000000 in
theorem lxNone_any (w : World) (fn : Fn) (vv uv sv : Value) (h : FnArg w fn vv uv sv) (t u : Int) :
    Calls Tryz.prog 8 #[.agg (fn.enc vv uv sv), .int .u64 t, .int .u64 u] w fun e w' => e = .returned (.bool true) ∧ Fr N0 w w' := by
  obtain ⟨bv, hv⟩ := h.vals
  have hfit := fun W (hf : Fr N0 w W) => lxFits_any W bv fn vv uv sv (rowsK_frT (enc := Val.enc) (n := 5) val_len hv hf fun _ => id) h.uids h.vars
  obtain ⟨w0, hw0⟩ : ∃ w0, w.alloc (.cells (fn.enc vv uv sv) 94) = w0 := ⟨_, rfl⟩
  have hf0 : Fr N0 w w0 := by rw [← hw0]; exact (Fr.refl _ _).alloc _
  have hb0 : w0.heap[w.heap.size]? = some (.cells (fn.enc vv uv sv) 94 (0, 0)) := by rw [← hw0]; exact World.alloc_heap_new w _
  have hl0 := lt_of_block hb0
  have HFIT := Lib.hid hfit; have HF0 := Lib.hid hf0; have HB0 := Lib.hid hb0
  have HLV := Lib.hid fun W => lxLives_any W
  have HRN := Lib.hid fun (W : World) (A p : Nat) (hA : BoxB A #[.pointer none, .pointer (some ⟨p, 0, none⟩)] W) (hn : W.cell? ⟨p, 0, none⟩ = some (.string ⟨#[]⟩)) (hB : BoxB w.heap.size (fn.enc vv uv sv) W) => (⟨hA, hB, hn⟩ : RnW A w.heap.size p fn vv uv sv W)
  clear hfit hf0 hb0 hv h
  obtain ⟨fe, hfe⟩ : ∃ fe : Fn, fn = fe := ⟨_, rfl⟩
  obtain ⟨kd, pred, back, vals, nu, ns⟩ := fn
  have HFE := Lib.hid hfe
  clear hfe
  simp only [Fn.enc] at HFIT HB0 hw0 ⊢
  go_enter Tryz.func8, Tryz.ntmps8
  go_wp2_with fail
  try rw [hw0]
  clear hw0
  refine (HLV.out _).mono ?_
  rintro e w1 ⟨rfl, hf1⟩
  have hb1 := (hf1.at (k := w.heap.size) id hl0).trans HB0.out
  obtain ⟨mb, nb, lb⟩ := box_cells hb1
  have HF1 := Lib.hid (HF0.out.then0 hf1); have HB1 := Lib.hid hb1
  clear hf1 hb1
  go_wp2_with fail
  refine (HFIT.out _ HF1.out).mono ?_
  rintro e w2 ⟨⟨q, rfl⟩, hf2⟩
  have HF2 := Lib.hid (HF1.out.then0 hf2)
  have HB2 := Lib.hid ((hf2.at (k := w.heap.size) id (lt_of_block HB1.out)).trans HB1.out)
  clear hf2 mb nb lb
  cases q with
  | false =>
    go_wp2
    go_ret
    exact ⟨rfl, HF2.out⟩
  | true =>
    go_wp2_with fail
    generalize hV : World.alloc (World.alloc w2 _) _ = V
    have hfV : Fr N0 w2 V := by rw [← hV]; exact ((Fr.refl N0 w2).alloc _).alloc _
    have hp : V.cell? ⟨w2.heap.size, 0, none⟩ = some (.string ⟨#[]⟩) := by
      rw [← hV]
      exact (box_cells ((Below.heap_alloc _ _ _ (by simp)).trans (World.alloc_heap_new w2 _))).1 0
    have hA : BoxB (w2.heap.size + 1) #[.pointer none, .pointer (some ⟨w2.heap.size, 0, none⟩)] V := by
      rw [← hV]
      exact ⟨(box_cells (heap2_newX _ _ _)).1, (box_cells (heap2_newX _ _ _)).2.2⟩
    have hb := box_cells ((hfV.at (k := w.heap.size) id (lt_of_block HB2.out)).trans HB2.out)
    have RW := Lib.hid (HRN.out V _ _ hA hp ⟨hb.1, hb.2.2⟩)
    have HFV := Lib.hid (HF2.out.then0 hfV)
    clear hV hfV hp hA hb HRN HB2 HB1 HB0 HFIT HLV HFE HF1 HF2 HF0 hl0
    go_loopw [9] (fun iv wr => ∃ k : Nat, k ≤ 2 ∧ iv = .int .i64 k ∧ Hid (RnW (w2.heap.size + 1) w.heap.size w2.heap.size ⟨kd, pred, back, vals, nu, ns⟩ vv uv sv wr) ∧ Hid (Fr N0 w wr)) (fun iv _ => 2 - (intOf iv).toNat)
    case atStart => exact ⟨0, by omega, rfl, RW, HFV⟩
    case round =>
      obtain ⟨k, hk, rfl, hw, hfr⟩ := hrel
      by_cases hlt : k < 2
      · have hki : (k : Int) < 2 := by omega
        have hk01 : (k : Int) = 0 ∨ (k : Int) = 1 := by omega
        clear RW HFV
        go_wp2_with fail
        rename_i Ka hKa Kb hKb
        refine wp_frA _ rfl ?_
        refine rn10 (K := Kb) wr _ _ _ _ k t u hk01 _ vv uv sv ⟨rfl, rfl, rfl, rfl, rfl⟩ hw.out fun f1 W1 k1 g1 r1 hx1 => ?_
        refine hKb _ _ ?_
        have hw1 := hw.out.fr hx1
        refine wp_seq (rn11 W1 f1 _ _ _ k t u hk01 _ vv uv sv g1 r1 hw1 fun f2 W2 k2 g2 r2 hx2 => ?_)
        have hw2 := hw1.fr hx2
        refine wp_seq (rn12 W2 f2 _ _ _ k t u hk01 _ vv uv sv g2 r2 hw2 fun f3 W3 k3 g3 r3 hx3 => ?_)
        have hw3 := hw2.fr hx3
        refine wp_seq (rn13 W3 f3 _ _ _ k t u hk01 _ vv uv sv g3 r3 hw3 fun f4 W4 k4 g4 r4 hx4 => ?_)
        have hw4 := hw3.fr hx4
        refine wp_seq (rn14 W4 f4 _ _ _ k t u hk01 _ vv uv sv g4 r4 hw4 fun f W5 k5 g5 r5 hx5 => ?_)
        have hw5 := Lib.hid (hw4.fr hx5)
        have hfr5 := Lib.hid (hfr.out.then0 (hx1.then0 (hx2.then0 (hx3.then0 (hx4.then0 hx5)))))
        have kk := fun i hi => (k5 i hi).trans ((k4 i hi).trans ((k3 i hi).trans ((k2 i hi).trans (k1 i hi))))
        have e0 := kk 0 (by decide); have e1 := kk 1 (by decide); have e2 := kk 2 (by decide); have e3 := kk 3 (by decide); have e4 := kk 4 (by decide); have e5 := kk 5 (by decide); have e6 := kk 6 (by decide); have e7 := kk 7 (by decide); have e8 := kk 8 (by decide); have e9 := kk 9 (by decide)
        have e20 := kk 20 (by decide); have e21 := kk 21 (by decide); have e22 := kk 22 (by decide); have e23 := kk 23 (by decide); have e24 := kk 24 (by decide); have e25 := kk 25 (by decide); have e26 := kk 26 (by decide); have e27 := kk 27 (by decide); have e28 := kk 28 (by decide)
        obtain ⟨⟨⟨⟨⟨d10, d11⟩, d12, d13⟩, d14, d15⟩, d16, d17⟩, d18, d19⟩ := r5
        clear kk k1 k2 k3 k4 k5 g1 g2 g3 g4 g5 r1 r2 r3 r4 hx1 hx2 hx3 hx4 hx5 hw1 hw2 hw3 hw4 hw hfr hKb
        show Code.wp _ _ _ { tmps := #[f 0, f 1, f 2, f 3, f 4, f 5, f 6, f 7, f 8, f 9, f 10, f 11, f 12, f 13, f 14, f 15, f 16, f 17, f 18, f 19, f 20, f 21, f 22, f 23, f 24, f 25, f 26, f 27, f 28, f 29, f 30, f 31, f 32, f 33, f 34, f 35, f 36, f 37, f 38, f 39, f 40, f 41, f 42, f 43, f 44, f 45, f 46, f 47, f 48, f 49, f 50, f 51, f 52, f 53, f 54, f 55, f 56, f 57, f 58, f 59, f 60, f 61, f 62, f 63, f 64, f 65, f 66, f 67, f 68, f 69, f 70, f 71, f 72, f 73, f 74, f 75, f 76, f 77, f 78, f 79, f 80, f 81, f 82, f 83, f 84, f 85, f 86, f 87, f 88, f 89, f 90, f 91, f 92, f 93, f 94, f 95, f 96, f 97, f 98, f 99, f 100, f 101, f 102, f 103, f 104, f 105, f 106, f 107, f 108, f 109, f 110, f 111, f 112, f 113, f 114, f 115, f 116, f 117, f 118, f 119], defers := [] } _
        rw [e0, e1, e2, e3, e4, e5, e6, e7, e8, e9, e20, e21, e22, e23, e24, e25, e26, e27, e28, d10, d11, d12, d13, d14, d15, d16, d17, d18, d19]
        clear e0 e1 e2 e3 e4 e5 e6 e7 e8 e9 e20 e21 e22 e23 e24 e25 e26 e27 e28 d10 d11 d12 d13 d14 d15 d16 d17 d18 d19
        go_wp2_with fail
        exact ⟨⟨k + 1, by omega, rfl, hw5, hfr5⟩, by simp [intOf]; omega⟩
      · have hki : ¬ (k : Int) < 2 := by omega
        go_wp2
        go_ret
        exact ⟨rfl, hfr.out⟩
end Go.Proofs.YtefepfiijoafbaaGreat
namespace Go.Proofs.YtefepfiijoafbaaGreat.indexNone
open Go.ChangeShapes Go.WideShapes Go.ChangeAt Go.RowKit
open Go.ChangeMaps (open_string shut_string)
set_option linter.unusedVariables false

theorem own : ownKnob Tryz.prog.godebug = none := by kernel_rfl
theorem laidOut : laidOutB Tryz.prog = true := by kernel_rfl

set_option maxRecDepth 100000 in
theorem lifted (os : Os) (started : os.Started) (H : Type) (enc : TypeId × Value → H) :
    ReturnsInHanded {} Tryz.checked os 8 .any (Rows.indexNoneSpec.pre6 enc Tryz.prog Tryz.f8 Rows.indexNoneRow.domain false) (Rows.indexNoneSpec.post enc Tryz.prog Tryz.f8 false true false false) := by
  refine returnsInHanded_of_change (C := Tryz.checked) own started (by kernel_rfl) Tryz.func8
    (ChangeSpec.witness6 (enc := enc) (C := Tryz.checked) false ⟨#[], #[.agg #[.int .u8 0, .string ⟨#[]⟩, .bool false, .slice none 0 0, .slice none 0 0, .slice none 0 0], .int .u64 0, .int .u64 0], []⟩ 8 (by kernel_rfl) (by kernel_rfl) (by kernel_rfl) (by kernel_rfl)) ?_
  intro W base args ds gs before hval0 hW hcnd _
  have hval : ∀ (j : Nat) t v, Tryz.f8.params[j]? = some t → args[j]? = some v → Value.okWide Tryz.prog W .any base t v := hval0
  have hW' := hW
  obtain ⟨p, q, hA0, hV, rfl, hfz, hnd⟩ := hW
  have hA : DataW.TrodAll enc Tryz.prog W 0 (fun _ => true) true Tryz.f8.params.toList args.toList ds p := hA0
  rw [Tryz.params8] at hA hval
  obtain ⟨v0, vs0, d0, ds0, p0, q0, hargs, rfl, rfl, h0, r0⟩ := trodAll_cons hA
  obtain ⟨v1, vs1, d1, ds1, p1, q1, rfl, rfl, rfl, h1, r1⟩ := trodAll_cons r0
  obtain ⟨v2, vs2, d2, ds2, p2, q2, rfl, rfl, rfl, h2, r2⟩ := trodAll_cons r1
  obtain ⟨rfl, rfl, rfl⟩ := trodAll_nil r2
  obtain rfl : args = #[v0, v1, v2] := by cases args; simp_all
  obtain ⟨rfl, rfl⟩ := trodVars_none hV
  obtain ⟨cs, rfl, hsz⟩ := okWide_struct Tryz.underlying94 (hval 0 94 v0 rfl rfl)
  obtain ⟨n1, rfl⟩ := okWide_int Tryz.underlying33 (hval 1 33 v1 rfl rfl)
  obtain ⟨n2, rfl⟩ := okWide_int Tryz.underlying33 (hval 2 33 v2 rfl rfl)
  have k0 := h0; have k1 := h1; have k2 := h2
  have lt0 : ∀ x ∈ p0, x.block < W.heap.size := by obtain ⟨m, hm⟩ := k0; exact DataW.trod_lt m _ _ _ hm
  have lt1 : ∀ x ∈ p1, x.block < W.heap.size := by obtain ⟨m, hm⟩ := k1; exact DataW.trod_lt m _ _ _ hm
  have lt2 : ∀ x ∈ p2, x.block < W.heap.size := by obtain ⟨m, hm⟩ := k2; exact DataW.trod_lt m _ _ _ hm
  obtain ⟨f, vv, uv, sv, hcs, hf⟩ : ∃ (f : Fn) (vv uv sv : Value), cs = f.enc vv uv sv ∧ FnArg W f vv uv sv := by
    obtain ⟨fuel, hf⟩ := h0
    obtain ⟨f, vv, uv, sv, hcs, hg⟩ := open_fn hf
    exact ⟨f, vv, uv, sv, by simpa [Value.cells] using hcs, hg⟩
  subst hcs
  clear hA0 hval0
  refine (lxNone_any W f vv uv sv hf n1 n2).mono fun e W' ⟨he, hfr⟩ => ?_
  have bel := hfr.below0
  subst he
  exact ⟨_, rfl, _, _, _, [], _, [], hW', trodAll_mk1 (shut_bool Tryz.underlying4 _), (trodAll_cons_mk (Below.trod laidOut (by kernel_rfl) (of_decide_eq_true (by kernel_rfl)) k0 bel lt0) (trodAll_cons_mk (Below.trod laidOut (by kernel_rfl) (of_decide_eq_true (by kernel_rfl)) k1 bel lt1) (trodAll_cons_mk (Below.trod laidOut (by kernel_rfl) (of_decide_eq_true (by kernel_rfl)) k2 bel lt2) trodAll_mk0))), rfl, bel.frame _, fun h => by cases h⟩

theorem over : Rows.indexNoneRow.holds Tryz.pinned (OpenSpec.ofChange Rows.indexNoneSpec) :=
  OpenClaim.holds_of_wide 8 Tryz.f8 rfl rfl rfl rfl rfl rfl rfl ⟨rfl, rfl, rfl, rfl, rfl⟩ rfl rfl rfl rfl rfl (by kernel_rfl) Tryz.func8 (by kernel_rfl)
    (of_decide_eq_true (by kernel_rfl)) (by unfold Func.isWrapper; first | (rw [if_pos (by decide +kernel)]; kernel_rfl) | (rw [if_neg (by decide +kernel)]; exact ⟨rfl, rfl⟩))
    (fun os started H enc _ => lifted os started H enc)

/-- THE STATEMENT -/
theorem proved : Rows.IndexNoneSaid := over
#print axioms proved
end Go.Proofs.YtefepfiijoafbaaGreat.indexNone
