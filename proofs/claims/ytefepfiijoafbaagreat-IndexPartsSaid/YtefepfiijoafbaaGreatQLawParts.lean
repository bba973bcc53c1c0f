/- IndexParts, whole. IndexParts, proved: the walk is lxParts_any (LxParts). Conditions: none but the row's own. -/
import Derived.Test.YtefepfiijoafbaaGreatRows
import Derived.WalkKit
import Derived.ProofKit
import Derived.OpenShut
import Derived.ShutString
import Derived.ChangeOld
import Derived.Below
import Derived.Test.YtefepfiijoafbaaGreatQPtJ
import Derived.Test.YtefepfiijoafbaaGreatQPtH
import Derived.Test.YtefepfiijoafbaaGreatQPtD
import Derived.Test.YtefepfiijoafbaaGreatQArgC
namespace Go.Proofs.YtefepfiijoafbaaGreat
open Go.RowKit Go.Shelf Go.Maps
attribute [local go_sem] Oper.semAt_some
attribute [local irreducible] wpQuiet
set_option linter.unusedVariables false
set_option linter.unusedSimpArgs false

theorem ptB0_eq : ptB 0 = .seq (lvFst (ptB 0)) (.seq (lvFst (ptB 1)) (.seq (lvFst (ptB 2)) (.seq (lvFst (ptB 3)) (.seq (lvFst (ptB 4)) (.seq (lvFst (ptB 5)) (.seq (lvFst (ptB 6)) (.seq (lvFst (ptB 7)) (ptB 8)))))))) := by kernel_rfl
theorem ptB8_eq : ptB 8 = .seq (lvFst (ptB 8)) (.seq (lvFst (ptB 9)) (.seq (lvFst (ptB 10)) (.seq (lvFst (ptB 11)) (.seq (lvFst (ptB 12)) (.seq (lvFst (ptB 13)) (.seq (lvFst (ptB 14)) (.seq (lvFst (ptB 15)) (ptB 16)))))))) := by kernel_rfl
theorem lxParts_body : Tryz.f6.body = some (ptB 0) := by kernel_rfl
theorem lxParts_results : Tryz.f6.results = #[.cell 8 4] := by kernel_rfl
set_option maxRecDepth 100000 in
set_option maxHeartbeats 4000000 in
theorem lxParts_load (W : World) (br : Nat) (h : W.heap[br]? = some (.cells #[.bool true] 4 (0, 0))) (f : Nat → Value) (h8 : f 8 = .pointer (some ⟨br, 0, none⟩)) : (results Tryz.f6 ((List.range 226).map f).toArray).run Tryz.prog W = .ok (.bool true) W := by
  have c := cell_of_one h
  unfold results
  rw [lxParts_results]
  simp [go_sem, h8, c]
theorem LenIs.at {P : Int → Prop} {N : Nat} {v : Value} (h : LenIs P N v) : ∃ xs : List Int, (∃ a c, v = .slice a xs.length c) ∧ (RisesBy id xs ∧ ∀ u, u ∈ xs ↔ P u) ∧ xs.length ≤ N := by
  obtain ⟨a, c, xs, e, h1, h2, h3⟩ := h
  exact ⟨xs, ⟨a, c, e⟩, ⟨h1, h2⟩, h3⟩
set_option maxRecDepth 100000 in
set_option maxHeartbeats 4000000 in
theorem lxParts_any (w : World) (b : Nat) (v : Value) (cs : List CmV) (hc : Cms w b v cs) (t a c : Int) (ht : 0 ≤ t) :
    Calls Tryz.prog 6 #[v, .int .u64 t, .int .i64 a, .int .i64 c] w fun e w' => e = .returned (.bool true) ∧ Fr N0 w w' := by
  refine (callsIn_wide (n := 5)).1 (callsIn_of_wp_marks Tryz.func6 lxParts_body trivial (wpIn_wide.2 ?_) rfl)
  simp only [Tryz.ntmps6, List.size_toArray, List.length_cons, List.length_nil, Nat.reduceAdd, Nat.reduceSub, Array.replicate_succ, Array.replicate_zero, List.push_toArray, List.append_toArray, List.nil_append, List.cons_append]
  refine wp_frA (n := 226) _ rfl ?_
  refine (show ∀ f0 : Nat → Value, f0 0 = v → f0 1 = .int .u64 t → f0 2 = .int .i64 a → f0 3 = .int .i64 c → Code.wp Tryz.prog (ptB 0) _ (frA 226 f0) w from fun f0 a0 a1 a2 a3 => ?_) _ rfl rfl rfl rfl
  rw [ptB0_eq]
  refine wp_seq (pt0 w f0 t a1 fun f1 W1 BR B5 k1 e5 e8 hb1 => ?_)
  refine wp_seq (pt1 W1 f1 fun f2 W2 k2 hf2 => ?_)
  have hb2 := hb1.fr' hf2
  have d0 : f2 0 = v := (k2.at 0 (by decide)).trans ((k1.at 0 (by decide)).trans a0)
  have d2 : f2 2 = .int .i64 a := (k2.at 2 (by decide)).trans ((k1.at 2 (by decide)).trans a2)
  have d3 : f2 3 = .int .i64 c := (k2.at 3 (by decide)).trans ((k1.at 3 (by decide)).trans a3)
  have d5 : f2 5 = vP B5 := (k2.at 5 (by decide)).trans e5
  have d8 : f2 8 = vP BR := (k2.at 8 (by decide)).trans e8
  refine wp_seq (pt2 w W2 f2 b BR B5 t v cs (hc.fr hb2.fr) hb2 d0 d8 (fun h20 f3 W3 k3 hf3 => ?_) fun f3 W3 r8 hres hf3 => ?_)
  · have hb3 := hb2.fr' hf3
    refine wp_seq (pt3 w W3 f3 hb3.fr fun f4 W4 p1 k4 e9 e10 hp1 hL4 hf4 => ?_)
    refine wp_seq (pt4 w W4 f4 hL4.2.2 fun f5 W5 p2 B11 k5 e11 e12 hp2 hB11 hne hb11 hM5 hf5 => ?_)
    have g9 : f5 9 = vP p1 := (k5.at 9 (by decide)).trans e9
    have g10 : f5 10 = .int .i64 0 := (k5.at 10 (by decide)).trans e10
    have k05 : Kp [0, 2, 3, 5, 8] f2 f5 := (k3.trans k4 fun _ h => h).trans k5 (by decide)
    refine wp_seq (pt5 W5 f5 g10 e12 fun f6 k6 => ?_)
    have hb5 := (hb3.fr' hf4).fr' hf5
    have zR := lt_of_block hb3.res
    have z5 := lt_of_block hb3.b5
    have z4 := hf4.size
    have hp1' := (hL4.2.1 p1 rfl).2
    have hS : PtS w BR B5 B11 p1 p2 (fun k => k = p1) (fun k => k = p2) { s := cAge } { s := cFr2 } 0 t W5 :=
      { ll := hL4.fr hf5
        mm := hM5
        ap := fun k h1 h2 => by omega
        box := hb5
        b11 := hb11
        new11 := ⟨by have := hL4.2.2.size; omega, by omega, by omega⟩
        out := fun k hk => by
          constructor
          · intro h1; rcases hk with rfl | rfl | rfl <;> omega
          · intro h1; rcases hk with rfl | rfl | rfl <;> omega
        bl := Built.new may_age
        bm := Built.new may_fr2 }
    have k06 : Kp [0, 2, 3, 5, 8] f2 f6 := k05.trans k6 (by decide)
    refine wp_seq (ptLoop w W5 _ _ BR B5 B11 p1 p2 b v cs hc h20 t f6 _ _ hS ((k06.at 0 (by decide)).trans d0) ((k6.at 9 (by decide)).trans g9) ((k6.at 11 (by decide)).trans e11) fun f7 W7 R1 R2 l m k7 hS7 => ?_)
    have q2 : f7 2 = .int .i64 a := (k7.at 2 (by decide)).trans ((k06.at 2 (by decide)).trans d2)
    have q3 : f7 3 = .int .i64 c := (k7.at 3 (by decide)).trans ((k06.at 3 (by decide)).trans d3)
    have q5 : f7 5 = vP B5 := (k7.at 5 (by decide)).trans ((k06.at 5 (by decide)).trans d5)
    have q8 : f7 8 = vP BR := (k7.at 8 (by decide)).trans ((k06.at 8 (by decide)).trans d8)
    have q9 : f7 9 = vP p1 := (k7.at 9 (by decide)).trans ((k6.at 9 (by decide)).trans g9)
    have q11 : f7 11 = vP B11 := (k7.at 11 (by decide)).trans ((k6.at 11 (by decide)).trans e11)
    have hA : AgeL W7 R1 p1 l 20 := ⟨hS7.ll.1, fun k hk => (hS7.ll.2.1 k hk).2, hS7.bl, by decide⟩
    refine wp_seq (pt7 W7 f7 p1 B5 _ t _ q5 q9 hS7.box.b5 (hA.has t ht) fun f8 W8 v14 k8 s14 l14 hf8 => ?_)
    rw [ptB8_eq]
    have hb8 := (hS7.box.fr' hf8).b5
    refine wp_seq (pt8 W8 f8 p1 B5 _ t a _ _ ((k8.at 2 (by decide)).trans q2) ((k8.at 5 (by decide)).trans q5) ((k8.at 9 (by decide)).trans q9) hb8 ((ask_lt hA t a ht).fr hf8) ((ask_ge hA t a ht).fr hf8) fun f9 W9 v15 v16 k9 s15 s16 l15 l16 hf9 => ?_)
    have k89 : Kp kpC f7 f9 := k8.trans k9 (by decide)
    have hf79 := hf8.then0 hf9
    refine wp_seq (pt9 W9 f9 p1 B5 _ t a _ _ ((k89.at 2 (by decide)).trans q2) ((k89.at 5 (by decide)).trans q5) ((k89.at 9 (by decide)).trans q9) (hS7.box.fr' hf79).b5 ((ask_le hA t a ht).fr hf79) ((ask_gt hA t a ht).fr hf79) fun f10 W10 v17 v18 k10 s17 s18 l17 l18 hf10 => ?_)
    have k810 : Kp kpC f7 f10 := k89.trans k10 (by decide)
    have hf710 := hf79.then0 hf10
    refine wp_seq (pt10 W10 f10 p1 B5 _ t a c _ _ _ ((k810.at 2 (by decide)).trans q2) ((k810.at 3 (by decide)).trans q3) ((k810.at 5 (by decide)).trans q5) ((k810.at 9 (by decide)).trans q9) (hS7.box.fr' hf710).b5 ((ask_eq1 hA t a ht).fr hf710) ((ask_eq1 hA t c ht).fr hf710) ((ask_eq2 hA t a c ht).fr hf710) fun f11 W11 v19 v20 v21 k11 s19 s20 s21 l19 l20 l21 hf11 => ?_)
    have k811 : Kp kpC f7 f11 := k810.trans k11 (by decide)
    have hf711 := hf710.then0 hf11
    obtain ⟨x14, w14, r14, u14⟩ := l14.at
    obtain ⟨x15, w15, r15, u15⟩ := l15.at
    obtain ⟨x16, w16, r16, u16⟩ := l16.at
    obtain ⟨x17, w17, r17, u17⟩ := l17.at
    obtain ⟨x18, w18, r18, u18⟩ := l18.at
    obtain ⟨x19, w19, r19, u19⟩ := l19.at
    obtain ⟨x20, w20, r20, u20⟩ := l20.at
    obtain ⟨x21, w21, r21, u21⟩ := l21.at
    obtain ⟨c1, c2, c3, c4⟩ := (PartsOf.law (built_num hS7.bl t) ⟨r14, r15, r16, r17, r18, r19, r20, r21⟩)
    have hL : PtLens f11 x14.length x15.length x16.length x17.length x18.length x19.length x20.length x21.length :=
      { s14 := by rw [k11.at 14 (by decide), k10.at 14 (by decide), k9.at 14 (by decide), s14]; exact w14
        s15 := by rw [k11.at 15 (by decide), k10.at 15 (by decide), s15]; exact w15
        s16 := by rw [k11.at 16 (by decide), k10.at 16 (by decide), s16]; exact w16
        s17 := by rw [k11.at 17 (by decide), s17]; exact w17
        s18 := by rw [k11.at 18 (by decide), s18]; exact w18
        s19 := by rw [s19]; exact w19
        s20 := by rw [s20]; exact w20
        s21 := by rw [s21]; exact w21 }
    refine wp_seq (pt11 W11 f11 _ _ _ _ _ _ _ _ hL ⟨by omega, by omega, by omega, by omega, by omega, by omega⟩ c1 c2 c3 fun f12 k12 m19 m20 m21 => ?_)
    refine wp_seq (pt12 W11 f12 _ _ _ ⟨by omega, by omega⟩ m19 m20 m21 fun f13 k13 i19 i21 i22 => ?_)
    have k1113 : Kp kpD f11 f13 := k12.trans k13 fun _ h => h
    refine wp_seq (pt13 W11 f13 x19.length x20.length x21.length a c ((k1113.at 2 (by decide)).trans ((k811.at 2 (by decide)).trans q2)) ((k1113.at 3 (by decide)).trans ((k811.at 3 (by decide)).trans q3)) i19 i21 i22 fun f14 k14 j21 j22 => ?_)
    have hboth : (if a = c then x19.length else x19.length + x20.length) = x21.length := by
      by_cases e : a = c
      · rw [if_pos e] at c4 ⊢; exact c4.symm
      · rw [if_neg e] at c4 ⊢; exact c4
    rw [hboth] at j22
    refine wp_seq (pt14 W11 f14 x21.length j21 j22 fun f15 k15 => ?_)
    have k1113' : Kp [5, 8, 11] f11 f13 := fun i hi => k1113 i ((by decide : ∀ i ∈ [5, 8, 11], i ∈ kpD) i hi)
    have k1315 : Kp [5, 8, 11] f11 f15 := (k1113'.trans k14 fun _ h => h).trans k15 fun _ h => h
    have hS11 := hS7.fr hf711
    have z5' : f15 5 = vP B5 := (k1315.at 5 (by decide)).trans ((k811.at 5 (by decide)).trans q5)
    have z8' : f15 8 = vP BR := (k1315.at 8 (by decide)).trans ((k811.at 8 (by decide)).trans q8)
    have z11' : f15 11 = vP B11 := (k1315.at 11 (by decide)).trans ((k811.at 11 (by decide)).trans q11)
    rw [ptB15_eq]
    refine wp_seq (wp_seq (ptR25 W11 f15 p2 B5 B11 t z5' z11' hS11.box.b5 hS11.b11 fun f16 W12 k16 e162 hW12 => wp_block ?_))
    obtain ⟨ks, hks⟩ := exists_nodes m t
    have hf12 : Fr N0 W11 W12 := by rw [← hW12]; exact ((Fr.refl _ _).alloc _).alloc _
    have hz12 : W12.heap.size = W11.heap.size + 2 := by rw [← hW12]; simp
    have hBl : W12.heap[W11.heap.size]? = some (.cells #[vP p2] 51 (0, 0)) := by rw [← hW12]; exact (Below.heap_alloc _ _ _ (by simp)).trans (World.alloc_heap_new W11 _)
    have hBt : W12.heap[W11.heap.size + 1]? = some (.cells #[.int .u64 t] 33 (0, 0)) := by rw [← hW12]; exact heap2_newX _ _ _
    have hS12 := hS11.fr hf12
    have hseq := triples1_seq W12 W11.heap.size (W11.heap.size + 1) R2 p2 m (256 * 20) t ks hS12.mm.1 (fun k hk => (hS12.mm.2.1 k hk).2) hS12.bm.at (by decide) hks hBl hBt
    have y1 := lt_of_block hS11.box.res; have y2 := lt_of_block hS11.box.b5; have y3 := lt_of_block hS11.b11
    refine pt_range W12 BR B5 B11 p2 W11.heap.size (W11.heap.size + 1) 20 m.s.pred t ht R2 (fun k => k = BR ∨ k = B5 ∨ k = B11) m ks hks f16 hS12.mm.1 hS12.bm (by decide) hseq (fun k hk => ⟨fun h => ?_, ?_⟩) (fun k hk => ?_) ⟨⟨.inl rfl, .inr (.inl rfl), .inr (.inr rfl)⟩, hS12.box.res, hS12.box.b5, hS12.b11⟩ ((k16.at 5 (by decide)).trans z5') ((k16.at 8 (by decide)).trans z8') ((k16.at 11 (by decide)).trans z11') e162 fun D S W13 hI hf13 hD hwD hSD => ?_
    · rcases h with h | h | h
      · exact (hS12.out k hk).2 h
      · rcases hk with rfl | rfl | rfl <;> omega
      · rcases hk with rfl | rfl | rfl <;> omega
    · rcases hk with rfl | rfl | rfl <;> omega
    · rcases hk with h | h | h
      · exact (hS12.mm.2.1 k h).2
      · omega
      · omega
    · refine (show Code.wp Tryz.prog (ptB 16) _ { (frA 226 f16) with defers := [{ target := .collected D, args := #[] }] } W13 from ?_)
      refine pt_tail W13 BR D f16 ((k16.at 8 (by decide)).trans z8') hI.2.1 fun f17 r17 => ?_
      have hne : D ≠ BR := fun e => hSD (e ▸ hI.1.1)
      have hfs : Fr (fun k => k = BR) W13 (W13.setCell ⟨BR, 0, none⟩ (.bool true)) := (Fr.refl (fun k => k = BR) W13).setCell (.inl rfl) _
      have hD' := (hfs.at (k := D) hne (lt_of_block hD)).trans hD
      have hres := one_setCell (u := .bool true) hI.2.1
      refine ⟨by simp, .inl ⟨_, _, rfl, run_takeDeferred hD', ?_⟩⟩
      have hfd : Fr (fun k => k = D) (W13.setCell ⟨BR, 0, none⟩ (.bool true)) ((W13.setCell ⟨BR, 0, none⟩ (.bool true)).putObj D (.deferred none)) := (Fr.refl (fun k => k = D) _).putObj (l := D) (.inl rfl) _
      have hwz := hS12.mm.2.2.size
      refine ⟨_, lxParts_load _ BR ((hfd.at (k := BR) hne.symm (lt_of_block hres)).trans hres) f17 r17, rfl, ?_⟩
      refine ((hS12.mm.2.2.trans hf13 fun k hk => .inr ?_).trans hfs fun k hk => .inr ?_).trans hfd fun k hk => .inr ?_
      · rcases hk with rfl | rfl | rfl
        · exact hS12.box.new.1
        · exact hS12.box.new.2.1
        · exact hS12.new11.1
      · rw [hk]; exact hS12.box.new.1
      · rw [hk]; omega
  · exact ⟨_, lxParts_load W3 BR hres f3 r8, rfl, hf3⟩
end Go.Proofs.YtefepfiijoafbaaGreat
namespace Go.Proofs.YtefepfiijoafbaaGreat.indexParts
open Go.ChangeShapes Go.WideShapes Go.ChangeAt Go.RowKit
open Go.ChangeMaps (open_string shut_string)
set_option linter.unusedVariables false

theorem own : ownKnob Tryz.prog.godebug = none := by kernel_rfl
theorem laidOut : laidOutB Tryz.prog = true := by kernel_rfl

set_option maxRecDepth 100000 in
theorem lifted (os : Os) (started : os.Started) (H : Type) (enc : TypeId × Value → H) :
    ReturnsInHanded {} Tryz.checked os 6 .any (Rows.indexPartsSpec.pre6 enc Tryz.prog Tryz.f6 Rows.indexPartsRow.domain false) (Rows.indexPartsSpec.post enc Tryz.prog Tryz.f6 false true false false) := by
  refine returnsInHanded_of_change (C := Tryz.checked) own started (by kernel_rfl) Tryz.func6
    (ChangeSpec.witness6 (enc := enc) (C := Tryz.checked) false ⟨#[], #[.slice none 0 0, .int .u64 0, .int .i64 0, .int .i64 0], []⟩ 8 (by kernel_rfl) (by kernel_rfl) (by kernel_rfl) (by kernel_rfl)) ?_
  intro W base args ds gs before hval0 hW hcnd _
  have hval : ∀ (j : Nat) t v, Tryz.f6.params[j]? = some t → args[j]? = some v → Value.okWide Tryz.prog W .any base t v := hval0
  have hW' := hW
  obtain ⟨p, q, hA0, hV, rfl, hfz, hnd⟩ := hW
  have hA : DataW.TrodAll enc Tryz.prog W 0 (fun _ => true) true Tryz.f6.params.toList args.toList ds p := hA0
  rw [Tryz.params6] at hA hval
  obtain ⟨v0, vs0, d0, ds0, p0, q0, hargs, rfl, rfl, h0, r0⟩ := trodAll_cons hA
  obtain ⟨v1, vs1, d1, ds1, p1, q1, rfl, rfl, rfl, h1, r1⟩ := trodAll_cons r0
  obtain ⟨v2, vs2, d2, ds2, p2, q2, rfl, rfl, rfl, h2, r2⟩ := trodAll_cons r1
  obtain ⟨v3, vs3, d3, ds3, p3, q3, rfl, rfl, rfl, h3, r3⟩ := trodAll_cons r2
  obtain ⟨rfl, rfl, rfl⟩ := trodAll_nil r3
  obtain rfl : args = #[v0, v1, v2, v3] := by cases args; simp_all
  obtain ⟨rfl, rfl⟩ := trodVars_none hV
  obtain ⟨a0, len0, cap0, rfl⟩ := okWide_slice Tryz.underlying36 (hval 0 36 v0 rfl rfl)
  obtain ⟨n1, rfl⟩ := okWide_int Tryz.underlying33 (hval 1 33 v1 rfl rfl)
  obtain ⟨n2, rfl⟩ := okWide_int Tryz.underlying2 (hval 2 2 v2 rfl rfl)
  obtain ⟨n3, rfl⟩ := okWide_int Tryz.underlying2 (hval 3 2 v3 rfl rfl)
  have k0 := h0; have k1 := h1; have k2 := h2; have k3 := h3
  have lt0 : ∀ x ∈ p0, x.block < W.heap.size := by obtain ⟨m, hm⟩ := k0; exact DataW.trod_lt m _ _ _ hm
  have lt1 : ∀ x ∈ p1, x.block < W.heap.size := by obtain ⟨m, hm⟩ := k1; exact DataW.trod_lt m _ _ _ hm
  have lt2 : ∀ x ∈ p2, x.block < W.heap.size := by obtain ⟨m, hm⟩ := k2; exact DataW.trod_lt m _ _ _ hm
  have lt3 : ∀ x ∈ p3, x.block < W.heap.size := by obtain ⟨m, hm⟩ := k3; exact DataW.trod_lt m _ _ _ hm
  obtain ⟨b, cs, hC⟩ : ∃ b cs, Cms W b (.slice a0 len0 cap0) cs := by
    obtain ⟨fuel, hf⟩ := h0
    obtain ⟨b, v, cs, hcs, hC⟩ := open_cms hf
    simp [Value.cells] at hcs
    subst hcs
    exact ⟨b, cs, hC⟩
  have ht : 0 ≤ n1 := by
    obtain ⟨fuel, hf⟩ := h1
    obtain ⟨x, e, -, hw⟩ := DataW.trod_int Tryz.underlying33 hf
    simp [Value.cells] at e
    subst e
    exact (wf_nat hw).1
  clear hA0 hval0
  refine (lxParts_any W b _ cs hC n1 n2 n3 ht).mono fun e W' ⟨he, hfr⟩ => ?_
  have bel := hfr.below0
  subst he
  exact ⟨_, rfl, _, _, _, [], _, [], hW', trodAll_mk1 (shut_bool Tryz.underlying4 _), (trodAll_cons_mk (Below.trod laidOut (by kernel_rfl) (of_decide_eq_true (by kernel_rfl)) k0 bel lt0) (trodAll_cons_mk (Below.trod laidOut (by kernel_rfl) (of_decide_eq_true (by kernel_rfl)) k1 bel lt1) (trodAll_cons_mk (Below.trod laidOut (by kernel_rfl) (of_decide_eq_true (by kernel_rfl)) k2 bel lt2) (trodAll_cons_mk (Below.trod laidOut (by kernel_rfl) (of_decide_eq_true (by kernel_rfl)) k3 bel lt3) trodAll_mk0)))), rfl, bel.frame _, fun h => by cases h⟩

theorem over : Rows.indexPartsRow.holds Tryz.pinned (OpenSpec.ofChange Rows.indexPartsSpec) :=
  OpenClaim.holds_of_wide 6 Tryz.f6 rfl rfl rfl rfl rfl rfl rfl ⟨rfl, rfl, rfl, rfl, rfl⟩ rfl rfl rfl rfl rfl (by kernel_rfl) Tryz.func6 (by kernel_rfl)
    (of_decide_eq_true (by kernel_rfl)) (by unfold Func.isWrapper; first | (rw [if_pos (by decide +kernel)]; kernel_rfl) | (rw [if_neg (by decide +kernel)]; exact ⟨rfl, rfl⟩))
    (fun os started H enc _ => lifted os started H enc)

/-- THE STATEMENT -/
theorem proved : Rows.IndexPartsSaid := over
#print axioms proved
end Go.Proofs.YtefepfiijoafbaaGreat.indexParts
