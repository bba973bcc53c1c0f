/- The heap's methods at index.queue: Swap, Push, Pop. The heap's methods at index.queue: Push, Pop. -/
import Derived.Deep.AppendLies
import Derived.BigRegion
import Derived.Test.YtefepfiijoafbaaGreatQRkM
import Derived.Test.YtefepfiijoafbaaGreatQPAt
namespace Go.Proofs.YtefepfiijoafbaaGreat
open Go.RowKit Go.Shelf
attribute [local go_sem] Oper.semAt_some
attribute [local irreducible] wpQuiet
set_option linter.unusedVariables false
set_option linter.unusedSimpArgs false

set_option maxRecDepth 100000 in
set_option maxHeartbeats 2000000 in
theorem qswap_any (w : World) (hb base : Nat) (v : Value) (down : Bool) (H : List Rk) (hbx : QBox w hb v down) (h : RkRow w base v H) (i k : Nat) (hi : i < H.length) (hk : k < H.length) :
    Calls Tryz.prog 297 #[.pointer (some ⟨hb, 0, none⟩), .int .i64 i, .int .i64 k] w fun e w' => (∃ u, e = .returned u) ∧ RkRow w' base v (swapR H i k) ∧ Fr (fun q => v.ownBlock = some q) w w' := by
  obtain ⟨g, cap, rfl, -⟩ := h.form (by omega)
  obtain ⟨c1, c2, c3⟩ := h.cells rfl i hi
  obtain ⟨d1, d2, d3⟩ := h.cells rfl k hk
  obtain ⟨m, -, -⟩ := box_cells hbx
  have m0 := m 0
  simp at m0
  have f1 := h.frozenAt (i * 3)
  have f2 := h.frozenAt (i * 3 + 1)
  have f3 := h.frozenAt (i * 3 + 2)
  have f4 := h.frozenAt (k * 3)
  have f5 := h.frozenAt (k * 3 + 1)
  have f6 := h.frozenAt (k * 3 + 2)
  have hgb : ¬ hb = g := fun e => by
    obtain ⟨cur, hc⟩ := ownsRow_block h (g := g) rfl
    unfold QBox at hbx; rw [e, hc] at hbx; simp at hbx
  have hgb' : ¬ g = hb := fun e => hgb e.symm
  obtain ⟨n, hn⟩ : ∃ n, H.length = n := ⟨_, rfl⟩
  obtain ⟨x, hx⟩ : ∃ x, H[i] = x := ⟨_, rfl⟩
  obtain ⟨y, hy⟩ : ∃ x, H[k] = x := ⟨_, rfl⟩
  rw [hx] at c1 c2 c3; rw [hy] at d1 d2 d3; rw [hn] at hi hk m0
  have i1 : (0 : Int) ≤ (i : Int) := by omega
  have i2 : (i : Int) < (n : Int) := by omega
  have i3 : (0 : Int) ≤ (k : Int) := by omega
  have i4 : (k : Int) < (n : Int) := by omega
  rw [hn]
  have hsw : swapR H i k = (H.set i y).set k x := by
    rw [swapR_eq (by omega) (by omega), hx, hy]
  rw [hn] at h
  have hres := (h.set hn.symm i (by omega) y).set (by simp [hn]) k (by simp; omega) x
  rw [← hsw] at hres
  have hfr : Fr (fun q => (Value.slice (some ⟨g, 0, none⟩) n cap).ownBlock = some q) w _ := fr_rset (fr_rset (Fr.refl (fun q => (Value.slice (some ⟨g, 0, none⟩) n cap).ownBlock = some q) w) g i y rfl) g k x rfl
  have HR := Lib.hid hres; have HFR := Lib.hid hfr
  clear hsw hres hfr m
  by_cases hik : i = k
  · subst hik
    obtain rfl : x = y := hx.symm.trans hy
    clear h hbx hx hy hn hi hk
    obtain ⟨xu, xn, xs⟩ := x
    go_enter Tryz.func297, Tryz.ntmps297
    go_wp2
    go_region
    all_goals go_wp2
    all_goals go_end0
    all_goals exact ⟨⟨_, rfl⟩, World.ownsRow.drew HR.out, Fr.drew HFR.out⟩
  · have n1 : ¬ i * 3 = k * 3 := by omega
    have n2 : ¬ i * 3 = k * 3 + 1 := by omega
    have n3 : ¬ i * 3 = k * 3 + 2 := by omega
    have n4 : ¬ i * 3 + 1 = k * 3 := by omega
    have n5 : ¬ i * 3 + 1 = k * 3 + 1 := by omega
    have n6 : ¬ i * 3 + 1 = k * 3 + 2 := by omega
    have n7 : ¬ i * 3 + 2 = k * 3 := by omega
    have n8 : ¬ i * 3 + 2 = k * 3 + 1 := by omega
    have n9 : ¬ i * 3 + 2 = k * 3 + 2 := by omega
    have p1 : ¬ k * 3 = i * 3 := by omega
    have p2 : ¬ k * 3 + 1 = i * 3 := by omega
    have p3 : ¬ k * 3 + 2 = i * 3 := by omega
    have p4 : ¬ k * 3 = i * 3 + 1 := by omega
    have p5 : ¬ k * 3 + 1 = i * 3 + 1 := by omega
    have p6 : ¬ k * 3 + 2 = i * 3 + 1 := by omega
    have p7 : ¬ k * 3 = i * 3 + 2 := by omega
    have p8 : ¬ k * 3 + 1 = i * 3 + 2 := by omega
    have p9 : ¬ k * 3 + 2 = i * 3 + 2 := by omega
    clear h hbx hx hy hn hi hk
    obtain ⟨xu, xn, xs⟩ := x
    obtain ⟨yu, yn, ys⟩ := y
    go_enter Tryz.func297, Tryz.ntmps297
    go_wp2
    go_region
    all_goals go_wp2
    all_goals go_end0
    all_goals exact ⟨⟨_, rfl⟩, World.ownsRow.drew HR.out, Fr.drew HFR.out⟩
end Go.Proofs.YtefepfiijoafbaaGreat
namespace Go.Proofs.YtefepfiijoafbaaGreat
open Go.RowKit Go.Shelf
attribute [local go_sem] Oper.semAt_some
attribute [local irreducible] wpQuiet
set_option linter.unusedVariables false
set_option linter.unusedSimpArgs false

theorem assert_rk (v : Value) (W : World) : (Instr.typeAssert (.iface 164 v) 20 164 false).run Tryz.prog W = .ok v W := by
  kernel_rfl
theorem rk_info : (Tryz.prog.info? 164).map (fun i => (i.zero, i.size, i.bytes)) = some (some (.agg #[.int .u64 0, .int .i64 0, .bool false]), 3, 24) := by kernel_rfl

theorem qbox_set {w : World} {hb : Nat} {v : Value} {down : Bool} (h : QBox w hb v down) (x : Value) : QBox (w.setCell ⟨hb, 0, none⟩ x) hb x down := by
  unfold QBox at h ⊢
  rw [heap_setCell_same w hb 0 _ _ x h]
  simp

set_option maxRecDepth 100000 in
set_option maxHeartbeats 2000000 in
theorem qpush_any (w : World) (base hb : Nat) (v : Value) (down : Bool) (H : List Rk) (h : RkRow w base v H) (hbx : QBox w hb v down) (hbase : base ≤ w.heap.size) (hl : H.length ≤ 1000000) (p : Rk) :
    Calls Tryz.prog 296 #[.pointer (some ⟨hb, 0, none⟩), .iface 164 (.agg #[.int .u64 p.uid, .int .i64 p.n, .bool p.some])] w fun e w' => (∃ u, e = .returned u) ∧ ∃ v', RkRow w' base v' (H ++ [p]) ∧ QBox w' hb v' down ∧
      (∀ q, v'.ownBlock = some q → v.ownBlock = some q ∨ w.heap.size ≤ q) ∧ Fr (fun q => q = hb ∨ v.ownBlock = some q) w w' := by
  obtain ⟨m, fz, lb⟩ := box_cells hbx
  have k1 := m 0
  simp at k1
  have f1 := fz 0
  have k1a : (w.alloc (.cells #[.int .u64 p.uid, .int .i64 p.n, .bool p.some] 164)).cell? ⟨hb, 0, none⟩ = some v := ((Fr.refl N0 w).alloc _).cell id k1
  obtain ⟨i0, hi, hz0, hz1, hz2⟩ := info_parts rk_info
  have hne : v.ownBlock ≠ some hb := fun e => by obtain ⟨c, hc⟩ := ownsRow_block h e; unfold QBox at hbx; rw [hbx] at hc; simp at hc
  have hkp : ∀ o w1, ((w.alloc o).drew).grownBy w1 v.ownBlock → QBox w1 hb v down := fun o w1 hg =>
    (((hg.block hb (by show hb < (w.alloc o).heap.size; have := lt_of_block hbx; simp; omega) (fun e => hne e.symm)).trans (Below.heap_alloc _ _ _ (lt_of_block hbx))).trans hbx)
  have HKP := Lib.hid hkp; have HH := Lib.hid h
  have hown0 : ∀ q, v.ownBlock = some q → q ≠ hb := fun q hq e => hne (by rw [hq, e])
  have HO := Lib.hid hown0
  have hlh : H.length ≤ 1000000 := hl
  obtain ⟨n, hn⟩ : ∃ n, H.length = n := ⟨_, rfl⟩
  have HN := Lib.hid hn
  have hrow : w.ownsRow base 164 3 v n (H.flatMap Rk.enc) := by rw [← hn]; exact h
  have HROW := Lib.hid hrow
  rw [hn] at hlh
  clear hkp hne hbx h hown0 m fz hn hrow hl
  have hta := assert_rk (.agg #[.int .u64 p.uid, .int .i64 p.n, .bool p.some])
  go_enter Tryz.func296, Tryz.ntmps296
  go_wp2
  go_region_law (first
    | (go_loud (refine step_append_lies _ rfl _ _ 159 rfl base 164 i0 (.agg #[.int .u64 0, .int .i64 0, .bool false]) 3 24 Tryz.underlying159 hi hz0 hz1 hz2 rfl (by decide) v n (H.flatMap Rk.enc) rfl (World.ownsRow.drew (World.ownsRow.alloc HROW.out _)) ⟨w.heap.size, 0, none⟩ 1 1 [.int .u64 p.uid, .int .i64 p.n, .bool p.some] rfl rfl (World.news_of_block (cs := #[.int .u64 p.uid, .int .i64 p.n, .bool p.some]) (t := 164) (fr := (0, 0)) (heap_alloc_new w _)) (by simp [Value.oneCell']) (by omega) (by unfold maxLen; omega) (by omega) (by simp [World.drew]; omega) (w.heap.size + 1) (by simp [World.drew]) ?_); intro g gc w1 hown hgrow hfresh hlt; obtain ⟨b1, b2, -⟩ := box_cells (HKP.out _ w1 hgrow); have b10 := b1 0; have b20 := b2 0; simp at b10))
  all_goals go_wp2
  all_goals go_end0
  all_goals
    have hgb : g ≠ hb := fun e => by
      rcases hfresh with h1 | h1
      · exact HO.out g h1 e
      · omega
    refine ⟨⟨_, rfl⟩, .slice (some ⟨g, 0, none⟩) (n + 1) gc, ?_, qbox_set (HKP.out _ w1 hgrow) _, ?_, ?_⟩
    · unfold RkRow
      rw [List.flatMap_append, List.length_append, HN.out]
      exact ownsRow_fr hown ((Fr.refl (fun j => j = hb) w1).setCell (p := ⟨hb, 0, none⟩) (.inl rfl) _) fun q hq e => by
        simp [Value.ownBlock] at hq; omega
    · intro q hq
      simp [Value.ownBlock] at hq; subst hq
      rcases hfresh with h1 | h1
      · exact .inl h1
      · right; omega
    · exact ((((Fr.refl _ w).alloc _).drew).grown hgrow fun k e => .inl (.inr e)).setCell (p := ⟨hb, 0, none⟩) (.inl (.inl rfl)) _

set_option maxRecDepth 100000 in
set_option maxHeartbeats 2000000 in
theorem qpop_any (w : World) (base hb : Nat) (v : Value) (down : Bool) (H : List Rk) (h : RkRow w base v H) (hbx : QBox w hb v down) (h0 : 0 < H.length) (hl : H.length ≤ 1000000) :
    Calls Tryz.prog 295 #[.pointer (some ⟨hb, 0, none⟩)] w fun e w' => (∃ r : Rk, H[H.length - 1]? = some r ∧ e = .returned (.iface 164 (.agg #[.int .u64 r.uid, .int .i64 r.n, .bool r.some]))) ∧ ∃ v', RkRow w' base v' (H.take (H.length - 1)) ∧ QBox w' hb v' down ∧
      v'.ownBlock = v.ownBlock ∧ Fr (fun q => q = hb) w w' := by
  obtain ⟨m0, fz0, lb⟩ := box_cells hbx
  have k1 := m0 0
  have f1 := fz0 0
  obtain ⟨g, cap, rfl, -⟩ := h.form h0
  obtain ⟨m, hm⟩ : ∃ m, H.length = m + 1 := ⟨H.length - 1, by omega⟩
  obtain ⟨c1, d1, e1⟩ := h.cells rfl m (by omega)
  have hgb : g ≠ hb := fun e => by
    obtain ⟨c, hc⟩ := ownsRow_block h (g := g) rfl
    unfold QBox at hbx; rw [← e, hc] at hbx; simp at hbx
  have hrow : ∀ W, Fr N0 w W → RkRow (W.setCell ⟨hb, 0, none⟩ (.slice (some ⟨g, 0, none⟩) m cap)) base (.slice (some ⟨g, 0, none⟩) m cap) (H.take m) := fun W hW => by
    refine RkRow.fr (T := fun q => q = hb) (((h.shorter (m := m) (by omega))).fr hW fun _ _ => id) ((Fr.refl (fun q => q = hb) W).setCell (p := ⟨hb, 0, none⟩) (.inl rfl) _) fun k hk e => ?_
    simp [Value.ownBlock] at hk
    omega
  have hbW : ∀ W, Fr N0 w W → QBox W hb (.slice (some ⟨g, 0, none⟩) H.length cap) down := fun W hW => hbx.fr0 hW
  have hcap : (m : Int) ≤ (cap : Int) := by have := h.cap; omega
  have hx0 : H[m]? = some H[m] := List.getElem?_eq_getElem (by omega)
  have e2 : H.length - 1 = m := by omega
  rw [e2]
  simp only [hm] at hbW
  simp [hm] at k1
  have HRW := Lib.hid hrow; have HBW := Lib.hid hbW; have HX0 := Lib.hid hx0
  obtain ⟨x, hx⟩ : ∃ x, H[m] = x := ⟨_, rfl⟩
  rw [hx] at c1 d1 e1 HX0
  have i1 : (0 : Int) ≤ (m : Int) := by omega
  have i2 : (m : Int) < (m : Int) + 1 := by omega
  have i3 : IntKind.i64.wrap ((m : Int) + 1 - 1) = (m : Int) := by rw [IntWalk.i64_in _ (by omega)]; omega
  have i4 : IntKind.i64.wrap (m : Int) = (m : Int) := IntWalk.i64_in _ (by omega)
  have mk : ∀ W, Fr N0 w W → W.cell? ⟨hb, 0, none⟩ = some (.slice (some ⟨g, 0, none⟩) (m + 1) cap) ∧ W.cell? ⟨g, m * 3, none⟩ = some (.int .u64 x.uid) ∧ W.cell? ⟨g, m * 3 + 1, none⟩ = some (.int .i64 x.n) ∧ W.cell? ⟨g, m * 3 + 2, none⟩ = some (.bool x.some) ∧ W.frozen? ⟨hb, 0, none⟩ = false ∧ Fr N0 w W :=
    fun W hW => ⟨hW.cell id k1, hW.cell id c1, hW.cell id d1, hW.cell id e1, (frozen_same (hW.at id (lt_of_cell k1))).trans f1, hW⟩
  clear h hbx hrow hbW hx hl h0 hm hx0 e2 m0 fz0
  obtain ⟨xu, xn, xs⟩ := x
  simp only at c1 d1 e1 mk
  go_enter Tryz.func295, Tryz.ntmps295
  go_wp2
  go_region_held3 (fun W => W.cell? ⟨hb, 0, none⟩ = some (.slice (some ⟨g, 0, none⟩) (m + 1) cap) ∧ W.cell? ⟨g, m * 3, none⟩ = some (.int .u64 xu) ∧ W.cell? ⟨g, m * 3 + 1, none⟩ = some (.int .i64 xn) ∧ W.cell? ⟨g, m * 3 + 2, none⟩ = some (.bool xs) ∧ W.frozen? ⟨hb, 0, none⟩ = false ∧ Fr N0 w W)
    (first | exact mk _ (Fr.refl _ _).drew | exact mk _ (Fr.drew (Fr.alloc (Fr.refl _ _) _)) | (go_split_ands; exact mk _ (Fr.alloc (by assumption) _))) (fail)
  have hf1 : Fr N0 w (w.alloc (.cells #[.int .u64 xu, .int .i64 xn, .bool xs] 164)).drew := ((Fr.refl _ _).alloc _).drew
  have hx0 : (w.alloc (.cells #[.int .u64 xu, .int .i64 xn, .bool xs] 164)).drew.heap[w.heap.size]? = some (.cells #[.int .u64 xu, .int .i64 xn, .bool xs] 164 (0, 0)) := World.alloc_heap_new w _
  go_split_ands
  generalize (w.alloc (Obj.cells #[Value.int IntKind.u64 xu, Value.int IntKind.i64 xn, Value.bool xs] 164)).drew = W1 at *
  have k2 := hf1.cell id k1
  have f2 := (frozen_same (hf1.at id (lt_of_cell k1))).trans f1
  have x0 : W1.cell? ⟨w.heap.size, 0, none⟩ = some (.int .u64 xu) := by simp [World.cell?, hx0]
  have x1 : W1.cell? ⟨w.heap.size, 1, none⟩ = some (.int .i64 xn) := by simp [World.cell?, hx0]
  have x2 : W1.cell? ⟨w.heap.size, 2, none⟩ = some (.bool xs) := by simp [World.cell?, hx0]
  have hbs := lt_of_cell k1
  have n1 : ¬ hb = w.heap.size := by simp only at hbs; omega
  have n2 : ¬ w.heap.size = hb := by simp only at hbs; omega
  clear mk hx0 c1 d1 e1
  go_wp2
  go_region_with (fail)
  all_goals go_wp2
  all_goals go_ret
  all_goals exact ⟨⟨⟨xu, xn, xs⟩, HX0.out, rfl⟩, _, RkRow.fr (HRW.out W1 hf1) (Fr.refl N0 _).drew (fun _ _ => id), (qbox_set (HBW.out W1 hf1) _).fr0 (Fr.refl N0 _).drew, rfl, ((Fr.mono (T' := fun q => q = hb) hf1 fun _ h => h.elim).setCell (p := ⟨hb, 0, none⟩) (.inl rfl) _).drew⟩
end Go.Proofs.YtefepfiijoafbaaGreat
