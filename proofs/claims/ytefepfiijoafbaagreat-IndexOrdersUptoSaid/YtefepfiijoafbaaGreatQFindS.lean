/- The map of index's finders. index.Find: its two drawn regions. index.Find: the region that calls the finder. -/
import Derived.Deep.DrawnRows
import Derived.Deep.RegionHeld3
import Derived.Test.YtefepfiijoafbaaGreatQFndE
import Derived.Test.YtefepfiijoafbaaGreatQValR
import Derived.Test.YtefepfiijoafbaaGreatQVOrd3
namespace Go.Proofs.YtefepfiijoafbaaGreat
open Go.RowKit Go.Shelf Go.Maps Go.Sort
attribute [local go_sem] Oper.semAt_some
attribute [local irreducible] wpQuiet
set_option linter.unusedVariables false
set_option linter.unusedSimpArgs false

theorem lawK : Keyed Tryz.prog 82 := int_keyed Tryz.underlying82
def litK (k : Int) : Lit := .int .u8 k
/-- While the map is laid. -/
structure FSt (W0 : World) (bm n : Nat) (F : Lit → Option Value) (L : List (Nat × Value)) (w : World) : Prop where
  map : MapF Tryz.prog 82 w bm n F
  box : ∀ p ∈ L, p.1 ≠ bm ∧ w.heap[p.1]? = some (.cells #[p.2] 234 (0, 0))
  fr : Fr N0 W0 w
  lo : W0.heap.size ≤ bm
theorem FSt.start (W : World) : FSt W W.heap.size 0 (fun _ => none) [] (W.alloc (.map #[] 0)) := ⟨MapF.made W Tryz.prog 82, fun p hp => (by cases hp), (Fr.refl _ _).alloc _, Nat.le_refl _⟩
theorem FSt.put {W0 w w' : World} {bm n m : Nat} {F G : Lit → Option Value} {L : List (Nat × Value)} (h : FSt W0 bm n F L w) (hm : MapF Tryz.prog 82 w' bm m G) (hf : Fr (fun j => j = bm) w w') : FSt W0 bm m G L w' where
  map := hm
  box := fun p hp => ⟨(h.box p hp).1, (hf.at (h.box p hp).1 (lt_of_block (h.box p hp).2)).trans (h.box p hp).2⟩
  fr := h.fr.trans hf fun k hk => .inr (by have := h.lo; omega)
  lo := h.lo
theorem FSt.lay {W0 w w' : World} {bm n : Nat} {F : Lit → Option Value} {L : List (Nat × Value)} {g : Value} (h : FSt W0 bm n F L w) (hw : w' = w.alloc (.cells #[g] 234)) : FSt W0 bm n F ((w.heap.size, g) :: L) w' := by
  subst hw
  have hf : Fr N0 w (w.alloc (.cells #[g] 234)) := (Fr.refl _ _).alloc _
  refine ⟨h.map.fr hf id, fun p hp => ?_, h.fr.then0 hf, h.lo⟩
  rcases List.mem_cons.1 hp with rfl | hp
  · exact ⟨by have := h.map.lt; simp only; omega, World.alloc_heap_new w _⟩
  · exact ⟨(h.box p hp).1, (hf.at id (lt_of_block (h.box p hp).2)).trans (h.box p hp).2⟩
/-- The finders. -/
structure Finders (w : World) (bm : Nat) (F : Lit → Option Value) : Prop where
  map : MapF Tryz.prog 82 w bm 10 F
  has : F (litK 2) = some (.func (.func 161) #[] #[])
  cnt : F (litK 11) = some (.func (.func 163) #[] #[])
  eq : F (litK 3) = some (.func (.func 164) #[] #[])
  any : F (litK 4) = some (.func (.func 166) #[] #[])
  all : F (litK 5) = some (.func (.func 169) #[] #[])
  btw : F (litK 10) = some (.func (.func 175) #[] #[])
  cmp : ∀ k gf, (k, gf) ∈ [((6 : Int), 171), (7, 172), (8, 173), (9, 174)] → ∃ bc, F (litK k) = some (.func (.func 158) #[] #[.pointer (some ⟨bc, 0, none⟩)]) ∧ w.heap[bc]? = some (.cells #[.func (.func gf) #[] #[]] 234 (0, 0))
theorem FSt.store {W0 w : World} {bm n : Nat} {F : Lit → Option Value} {L : List (Nat × Value)} (h : FSt W0 bm n F L w) (hn : n < 100) (k : Int) (hk : (Lit.int .u8 k).wf = true) (v : Value) :
    ∃ w', (Instr.mapUpdate 193 (.map (some bm)) (.int .u8 k) v).run Tryz.prog w = .ok () w' ∧ FSt W0 bm (n + 1) (putF F (litK k) (some v)) L w' := by
  obtain ⟨w', r, m, f⟩ := h.map.store lawK Tryz.underlying193 (by unfold maxLen; omega) (keyOf_int_mk Tryz.underlying82 hk) v
  exact ⟨w', r, h.put m f⟩
set_option maxRecDepth 100000 in
set_option maxHeartbeats 4000000 in
theorem finders_any (W : World) : Calls Tryz.prog 108 #[] W fun e w' => ∃ bm F, e = .returned (.map (some bm)) ∧ Finders w' bm F ∧ Fr N0 W w' := by
  have hmm := @run_makeMap Tryz.prog
  have eg := enters_fCmp
  obtain ⟨w1, r1, s1⟩ := (FSt.start W).store (by omega) 2 (by decide) (.func (.func 161) #[] #[])
  obtain ⟨w2, r2, s2⟩ := (s1).store (by omega) 11 (by decide) (.func (.func 163) #[] #[])
  obtain ⟨w3, r3, s3⟩ := (s2).store (by omega) 3 (by decide) (.func (.func 164) #[] #[])
  obtain ⟨w4, r4, s4⟩ := (s3).store (by omega) 4 (by decide) (.func (.func 166) #[] #[])
  obtain ⟨w5, r5, s5⟩ := (s4).store (by omega) 5 (by decide) (.func (.func 169) #[] #[])
  have t5 := s5.lay (g := .func (.func 171) #[] #[]) rfl
  obtain ⟨w6, r6, s6⟩ := t5.store (by omega) 6 (by decide) (.func (.func 158) #[] #[.pointer (some ⟨w5.heap.size, 0, none⟩)])
  have t6 := s6.lay (g := .func (.func 172) #[] #[]) rfl
  obtain ⟨w7, r7, s7⟩ := t6.store (by omega) 7 (by decide) (.func (.func 158) #[] #[.pointer (some ⟨w6.heap.size, 0, none⟩)])
  have t7 := s7.lay (g := .func (.func 173) #[] #[]) rfl
  obtain ⟨w8, r8, s8⟩ := t7.store (by omega) 8 (by decide) (.func (.func 158) #[] #[.pointer (some ⟨w7.heap.size, 0, none⟩)])
  have t8 := s8.lay (g := .func (.func 174) #[] #[]) rfl
  obtain ⟨w9, r9, s9⟩ := t8.store (by omega) 9 (by decide) (.func (.func 158) #[] #[.pointer (some ⟨w8.heap.size, 0, none⟩)])
  obtain ⟨w10, r10, s10⟩ := s9.store (by omega) 10 (by decide) (.func (.func 175) #[] #[])
  have HS := Lib.hid s10
  clear s1 s2 s3 s4 s5 s6 s7 s8 s9 s10 t5 t6 t7 t8
  go_enter Tryz.func108, Tryz.ntmps108
  go_wp2_with (go_at_call 157; refine (fCmp_any _ rfl rfl _).mono ?_; rintro e w1 ⟨rfl, rfl⟩)
  (try go_ret)
  refine ⟨_, _, rfl, ⟨HS.out.map, ?_, ?_, ?_, ?_, ?_, ?_, ?_⟩, HS.out.fr⟩
  iterate 6 (simp [putF, litK])
  intro k gf hk
  simp only [List.mem_cons, Prod.mk.injEq, List.not_mem_nil, or_false] at hk
  rcases hk with ⟨rfl, rfl⟩ | ⟨rfl, rfl⟩ | ⟨rfl, rfl⟩ | ⟨rfl, rfl⟩
  · exact ⟨w5.heap.size, by simp [putF, litK], (HS.out.box (w5.heap.size, _) (by simp)).2⟩
  · exact ⟨w6.heap.size, by simp [putF, litK], (HS.out.box (w6.heap.size, _) (by simp)).2⟩
  · exact ⟨w7.heap.size, by simp [putF, litK], (HS.out.box (w7.heap.size, _) (by simp)).2⟩
  · exact ⟨w8.heap.size, by simp [putF, litK], (HS.out.box (w8.heap.size, _) (by simp)).2⟩
end Go.Proofs.YtefepfiijoafbaaGreat
namespace Go.Proofs.YtefepfiijoafbaaGreat
open Go.RowKit Go.Shelf Go.Maps
attribute [local go_sem] Oper.semAt_some
attribute [local go_sem ↓] Go.wp_at_zero Go.wp_at_succ
attribute [local irreducible] wpQuiet
set_option linter.unusedVariables false
set_option linter.unusedSimpArgs false

noncomputable def fdB (n : Nat) : Code := lvSuf n ((Tryz.f41.body).getD .skip)
theorem zeroFnR : ∀ w, (zeroValue 192).run Tryz.prog w = .ok .nilFunc w := fun w => by kernel_rfl
/-- What a look-up of a kind finds. -/
theorem finder_look {w : World} {bm : Nat} {F : Lit → Option Value} (h : Finders w bm F) {k : Int} (hk : (Lit.int .u8 k).wf = true) {v : Value} (hF : F (litK k) = some v) :
    (Instr.lookup 193 (.map (some bm)) (.int .u8 k) false).run Tryz.prog w = .ok v w := by
  have := (h.map.look lawK Tryz.underlying193 (zeroFnR w) (keyOf_int_mk Tryz.underlying82 hk)).1
  rw [show (Lit.int .u8 k) = litK k from rfl, hF] at this
  exact this
theorem Finders.fr {w w' : World} {bm : Nat} {F : Lit → Option Value} (h : Finders w bm F) (hf : Fr N0 w w') : Finders w' bm F :=
  ⟨h.map.fr hf id, h.has, h.cnt, h.eq, h.any, h.all, h.btw, fun k gf hk => by obtain ⟨bc, h1, h2⟩ := h.cmp k gf hk; exact ⟨bc, h1, (hf.at id (lt_of_block h2)).trans h2⟩⟩

set_option maxRecDepth 100000 in
set_option maxHeartbeats 4000000 in
/-- Whether it fits. -/
theorem fdR3 {K : Act → World → Prop} {Q : Exit → Act → World → Prop} (W : World) (f : Nat → Value) (p B : Nat) (S : Sch) (kd : Int) (pred : ByteArray) (back : Bool) (vv uv sv : Value) (E : Int)
    (h0 : f 0 = .pointer (some ⟨p, 0, none⟩)) (h4 : f 4 = .pointer (some ⟨B, 0, none⟩)) (hB : BoxB B #[.int .u8 kd, .string pred, .bool back, vv, uv, sv] W)
    (hS : ∀ W', Fr N0 W W' → Calls Tryz.prog 81 #[.pointer (some ⟨p, 0, none⟩)] W' fun e w' => e = .returned (.agg S.enc.toArray) ∧ Fr N0 W' w')
    (hF : ∀ W', Fr N0 W W' → Calls Tryz.prog 39 #[.agg S.enc.toArray, .agg #[.int .u8 kd, .string pred, .bool back, vv, uv, sv]] W' fun e w' => e = .returned (.int .i64 E) ∧ Fr N0 W' w')
    (hK : ∀ f' W', f' 0 = f 0 → f' 2 = f 2 → f' 4 = f 4 → f' 8 = .int .i64 E → Fr N0 W W' → K (frA 33 f') W') :
    Code.wp Tryz.prog (lvFst (lvFst (fdB 2))) (Exit.then K Q) (frA 33 f) W := by
  obtain ⟨sp, st, sl, se, sm, so, sr, sc⟩ := S
  simp only [Sch.enc] at hS hF
  have HS := Lib.hid hS; have HF := Lib.hid hF; have HK := Lib.hid hK; have HB := Lib.hid hB
  obtain ⟨mb, lb⟩ := hB
  clear hS hF hK
  obtain ⟨f2, hf2⟩ : ∃ x, f 2 = x := ⟨_, rfl⟩
  have HK2 := HK.out
  simp only [h0, h4, hf2] at HK2
  have HKK := Lib.hid HK2
  clear HK HK2
  show Code.wp _ _ _ { tmps := #[f 0, f 1, f 2, f 3, f 4, f 5, f 6, f 7, f 8, f 9, f 10, f 11, f 12, f 13, f 14, f 15, f 16, f 17, f 18, f 19, f 20, f 21, f 22, f 23, f 24, f 25, f 26, f 27, f 28, f 29, f 30, f 31, f 32], defers := [] } _
  rw [h0, h4, hf2]
  clear h0 h4 hf2
  conv => arg 2; whnf
  have HBD := Lib.hid (boxB_keep (Fr.refl N0 W).drew id HB.out)
  clear HB
  go_region_held3 (BoxB B #[.int .u8 kd, .string pred, .bool back, vv, uv, sv]) (first
    | (with_reducible assumption)
    | (with_reducible exact HBD.out)
    | (with_reducible exact hb3)
    | (with_reducible exact hb4)
    | fail) (first
    | (go_simp; go_at_call 81; refine (HS.out _ (Fr.refl N0 W).drew).mono ?_; rintro e w3 ⟨rfl, hf3⟩; have hfw3 : Fr N0 W w3 := (Fr.refl N0 W).drew.then0 hf3; have hb3 := boxB_keep hf3 id HBD.out)
    | (go_simp; go_at_call 39; refine (HF.out _ hfw3).mono ?_; rintro e w4 ⟨rfl, hf4⟩; have hfw4 := hfw3.then0 hf4; have hb4 := boxB_keep hf4 id hb3)
    | fail)
  all_goals
    refine cut_use (n := 33) (K := K) _ rfl ?_
    exact HKK.out _ _ rfl rfl rfl rfl hfw4
end Go.Proofs.YtefepfiijoafbaaGreat
namespace Go.Proofs.YtefepfiijoafbaaGreat
open Go.RowKit Go.Shelf Go.Maps
attribute [local go_sem] Oper.semAt_some
attribute [local go_sem ↓] Go.wp_at_zero Go.wp_at_succ
attribute [local irreducible] wpQuiet
set_option linter.unusedVariables false
set_option linter.unusedSimpArgs false

set_option maxRecDepth 100000 in
set_option maxHeartbeats 4000000 in
theorem fdR8 {K : Act → World → Prop} {Q : Exit → Act → World → Prop} (W : World) (f : Nat → Value) (p B : Nat) (t : Int) (kd : Int) (pred : ByteArray) (back : Bool) (vv uv sv : Value) (G : Nat → World → Prop) (PP : Value → World → Prop) (gf : FuncId)
    (hkd : (Lit.int .u8 kd).wf = true) (eg : ∀ args w, (callFunc gf args).run Tryz.prog w = .ok (.enter gf args) w)
    (h0 : f 0 = .pointer (some ⟨p, 0, none⟩)) (h2 : f 2 = .int .u64 t) (h4 : f 4 = .pointer (some ⟨B, 0, none⟩)) (hB : BoxB B #[.int .u8 kd, .string pred, .bool back, vv, uv, sv] W)
    (hA : ∀ W', Fr N0 W W' → Calls Tryz.prog 83 #[.pointer (some ⟨p, 0, none⟩), .int .u64 t] W' fun e w' => ∃ px, e = .returned (.pointer (some ⟨px, 0, none⟩)) ∧ G px w' ∧ Fr N0 W' w')
    (hC : ∀ w3 bm F, Fr N0 W w3 → Finders w3 bm F → ∃ lb, F (litK kd) = some (.func (.func gf) #[] lb) ∧ ∀ w4 px, Fr N0 w3 w4 → G px w4 →
      Calls Tryz.prog gf (#[.pointer (some ⟨px, 0, none⟩), .agg #[.int .u8 kd, .string pred, .bool back, vv, uv, sv]] ++ lb) w4 fun e w' => ∃ v, e = .returned v ∧ PP v w' ∧ Fr N0 w4 w')
    (hK : ∀ f' W' v, f' 6 = v → f' 7 = .int .i64 0 → PP v W' → K (frA 33 f') W') :
    Code.wp Tryz.prog (lvFst (fdB 4)) (Exit.then K Q) (frA 33 f) W := by
  have HA := Lib.hid hA; have HC := Lib.hid hC; have HK := Lib.hid hK; have HB := Lib.hid hB; have HKD := Lib.hid hkd
  obtain ⟨mb, lb0⟩ := hB
  clear hA hC hK hkd
  show Code.wp _ _ _ { tmps := #[f 0, f 1, f 2, f 3, f 4, f 5, f 6, f 7, f 8, f 9, f 10, f 11, f 12, f 13, f 14, f 15, f 16, f 17, f 18, f 19, f 20, f 21, f 22, f 23, f 24, f 25, f 26, f 27, f 28, f 29, f 30, f 31, f 32], defers := [] } _
  rw [h0, h2, h4]
  clear h0 h2 h4
  conv => arg 2; whnf
  have HBD := Lib.hid (boxB_keep (Fr.refl N0 W).drew id HB.out)
  clear HB
  go_region_held3 (BoxB B #[.int .u8 kd, .string pred, .bool back, vv, uv, sv]) (first
    | (with_reducible assumption)
    | (with_reducible exact HBD.out)
    | (with_reducible exact hb3)
    | (with_reducible exact hb4)
    | (with_reducible exact hb5)
    | fail) (first
    | (go_simp; go_at_call 108; refine (finders_any _).mono ?_; rintro e w3 ⟨bm, F, rfl, hfd3, hf3⟩; have hfw3 : Fr N0 W w3 := (Fr.refl N0 W).drew.then0 hf3; have hb3 := boxB_keep hf3 id HBD.out; obtain ⟨lb, hF, hcall⟩ := HC.out w3 bm F hfw3 hfd3; have hlk3 := finder_look hfd3 HKD.out hF)
    | (go_simp; go_at_call 83; refine (HA.out _ hfw3).mono ?_; rintro e w4 ⟨px, rfl, hg4, hf4⟩; have hb4 := boxB_keep hf4 id hb3; have hlk4 := finder_look (hfd3.fr hf4) HKD.out hF)
    | (go_simp; refine (hcall w4 px hf4 hg4).mono ?_; rintro e w5 ⟨v5, rfl, hp5, hf5⟩; have hb5 := boxB_keep hf5 id hb4)
    | fail)
  all_goals
    refine cut_use (n := 33) (K := K) _ rfl ?_
    exact HK.out _ _ _ rfl rfl hp5
end Go.Proofs.YtefepfiijoafbaaGreat
