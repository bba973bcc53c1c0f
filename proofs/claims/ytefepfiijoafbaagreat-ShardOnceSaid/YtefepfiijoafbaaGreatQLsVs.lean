/- What a node has in the example: write, at, Values of one commit of one write. What a node has in the example: at, Values, of one commit of one write. Values in the example: a list's, a state's. -/
import Derived.Deep.QuietTactic
import Derived.Deep.RegionLaw
import Derived.Deep.DrawnRows
import Derived.Test.YtefepfiijoafbaaGreatQSMay
namespace Go.Proofs.YtefepfiijoafbaaGreat
open Go.RowKit Go.Shelf Go.Maps
attribute [local go_sem] Oper.semAt_some
attribute [local irreducible] wpQuiet
set_option linter.unusedVariables false
set_option linter.unusedSimpArgs false

theorem val_info : (Tryz.prog.info? 57).map (fun i => (i.zero, i.size, i.bytes)) = some (some (.agg #[.int .u8 0, .bool false, .int .i64 0, .string ⟨#[]⟩, .int .u64 0]), 5, 40) := by kernel_rfl
theorem val_len (x : Val) : (Val.enc x).length = 5 := rfl
theorem val_one (x : Val) : ∀ u ∈ x.enc, u.oneCell' = true := by intro u hu; simp [Val.enc] at hu; rcases hu with h | h | h | h | h <;> subst h <;> rfl

set_option maxRecDepth 100000 in
set_option maxHeartbeats 2000000 in
/-- slices.Clone at values. -/
theorem cloneV_any (w : World) (b : Nat) (v : Value) (xs : List Val) (h : RowsK Val.enc 5 w b v xs) (hl : xs.length ≤ 1000000) :
    Calls Tryz.prog 154 #[v] w fun e w' => ∃ v', e = .returned v' ∧ w'.ownsRow w.heap.size 57 5 v' xs.length (xs.flatMap Val.enc) ∧ (v = .slice none 0 0 → v' = .slice none 0 0) ∧ Fr N0 w w' := by
  obtain ⟨i0, hi, hz0, hz1, hz2⟩ := info_parts val_info
  have h' := h
  have hq := fun (w : World) a n c => Lib.run_eql_slice_nil (P := Tryz.prog) w 91 57 a n c 0 0 Tryz.underlying91
  obtain ⟨a, off, cap, rfl, h1, h2, h3, h4, h5⟩ := h
  cases a with
  | none =>
    have hc := h4 rfl
    subst hc
    obtain rfl : xs = [] := List.eq_nil_of_length_eq_zero (by omega)
    go_enter Tryz.func154, Tryz.ntmps154
    go_wp2
    go_ret
    exact ⟨_, rfl, World.ownsRow_nil _ _ _ _, by simp, Fr.refl _ _⟩
  | some a =>
    have hnews := rows_news (enc := Val.enc) (n := 5) val_len (by decide) h'
    clear h' h3 h4 h5
    have hnews' : ∀ (j : Nat) (u : Value), (xs.flatMap Val.enc)[j]? = some u → (w.alloc (.cells #[] 57)).cell? (a.add j) = some u := fun j u hu =>
      ((Fr.refl N0 w).alloc _).cell (fun h => h) (hnews j u hu)
    have hown := World.ownsRow_lit (base := w.heap.size) (e := 57) (size := 5) w #[] 0 (Nat.le_refl _) (by simp [maxLen]) rfl
    have hlen : (xs.flatMap Val.enc).length = xs.length * 5 := flat_length (enc := Val.enc) (n := 5) val_len xs
    have HN := Lib.hid hnews'; have HO := Lib.hid hown; have HL := Lib.hid hlen
    clear hnews hnews' hown hlen
    go_enter Tryz.func154, Tryz.ntmps154
    go_wp2_with (at_builtin; go_loud (refine wpList_append_own _ rfl _ _ 91 rfl w.heap.size 57 i0 (.agg #[.int .u8 0, .bool false, .int .i64 0, .string ⟨#[]⟩, .int .u64 0]) 5 40 Tryz.underlying91 hi hz0 hz1 hz2 rfl (by decide) _ _ _ rfl HO.out a xs.length cap (xs.flatMap Val.enc) rfl HL.out HN.out (one_cells val_one xs) (by unfold maxLen; omega) (by omega) (by simp) ?_); intro v' w1 hown' hgrow _)
    go_ret
    refine ⟨v', rfl, by simpa using hown', ((Fr.refl _ _).alloc _).grown hgrow (fun k e => .inr ?_)⟩
    have e' : some w.heap.size = some k := e
    cases e'; exact Nat.le_refl _

set_option maxRecDepth 100000 in
set_option maxHeartbeats 2000000 in
/-- slices.BinarySearchFunc in no values. -/
theorem bsvNil_any (w : World) (x : Val) (g : Value) : Calls Tryz.prog 208 #[.slice none 0 0, .agg x.enc.toArray, g] w fun e w' => e = .returned (.tuple #[.int .i64 0, .bool false]) ∧ Fr N0 w w' := by
  obtain ⟨vk, vb, vn, vs, vu⟩ := x
  simp only [Val.enc]
  go_enter Tryz.func208, Tryz.ntmps208
  go_wp2
  go_loopw [9, 10] (fun si sj wr => si = .int .i64 0 ∧ sj = .int .i64 0 ∧ Fr N0 w wr) (fun _ _ _ => 0)
  case atStart => exact ⟨rfl, rfl, (Fr.refl _ _).alloc _⟩
  case round =>
    obtain ⟨rfl, rfl, hfr⟩ := hrel
    go_wp2
    go_quiet (fail)
    go_wp2
    go_ret2
    exact ⟨rfl, hfr.drewN _⟩

theorem row_of_block {α : Type} {enc : α → List Value} {n : Nat} (x : α) {W : World} {g : Nat} {cs : Array Value} {t : TypeId} (h : W.heap[g]? = some (.cells cs t (0, 0))) (hcs : cs = (enc x).toArray) : RowsK enc n W g (.slice (some ⟨g, 0, none⟩) 1 1) [x] :=
  ⟨some ⟨g, 0, none⟩, 0, 1, rfl, Nat.le_refl _, by omega, fun _ => rfl, by simp, fun i hi c hc => by
    have : i = 0 := by simp at hi; exact hi
    subst this
    rw [(box_cells h).1, hcs]
    simp⟩
theorem zeroValsR : ∀ w, (zeroValue 91).run Tryz.prog w = .ok (.slice none 0 0) w := fun w => by kernel_rfl
set_option maxRecDepth 100000 in
set_option maxHeartbeats 2000000 in
/-- The first write of a predicate that is no list. -/
theorem hwrite1_any (W : World) (b : Nat) (x : Wr) (hx : (Lit.int .u64 x.uid).wf = true) (hd : x.del = false) (hm : MapF Tryz.prog 33 W b 0 fun _ => none) :
    Calls Tryz.prog 151 #[.map (some b), .agg x.enc.toArray, .bool false] W fun e w' => e = .returned (.tuple #[]) ∧ ∃ g, W.heap.size ≤ g ∧ RowsK Val.enc 5 w' g (.slice (some ⟨g, 0, none⟩) 1 1) [x.val] ∧ MapF Tryz.prog 33 w' b 1 (putF (fun _ => none) (litU x.uid) (some (.slice (some ⟨g, 0, none⟩) 1 1))) ∧ Fr (fun j => j = b) W w' := by
  obtain ⟨xd, xu, xp, vk, vb, vn, vs, vu⟩ := x
  simp only at hx hd
  subst hd
  have hku := keyOf_int_mk Tryz.underlying33 hx
  have hlk : ∀ w', Fr N0 W w' → (Instr.lookup 183 (.map (some b)) (.int .u64 xu) false).run Tryz.prog w' = .ok (.slice none 0 0) w' := fun w' hf => by
    have := ((hm.fr hf id).look lawU Tryz.underlying183 (zeroValsR _) hku).1
    exact this
  have hbs := fun w => bsvNil_any w ⟨vk, vb, vn, vs, vu⟩ (.func (.func 209) #[] #[])
  simp only [Val.enc] at hbs
  have hlt := hm.lt
  obtain ⟨W0, hW0⟩ : ∃ W0, W.alloc (.cells #[.bool false, .int .u64 xu, .string xp, .int .u8 vk, .bool vb, .int .i64 vn, .string vs, .int .u64 vu] 61) = W0 := ⟨_, rfl⟩
  have hf0 : Fr N0 W W0 := by rw [← hW0]; exact (Fr.refl _ _).alloc _
  have hB : W0.heap[W.heap.size]? = some (.cells #[.bool false, .int .u64 xu, .string xp, .int .u8 vk, .bool vb, .int .i64 vn, .string vs, .int .u64 vu] 61 (0, 0)) := by rw [← hW0]; exact World.alloc_heap_new W _
  have hlk0 := hlk W0 hf0
  obtain ⟨m0, n0, l0⟩ := box_cells hB
  have HM := Lib.hid hm; have HBS := Lib.hid hbs; have HKU := Lib.hid hku; have HF0 := Lib.hid hf0; have HB := Lib.hid hB
  clear hm hbs hku hf0 hB hlk
  simp only [Wr.enc]
  go_enter Tryz.func151, Tryz.ntmps151
  go_wp2_with (first
    | (go_at_call 208; refine (HBS.out _).mono ?_; rintro e w1 ⟨rfl, hf1⟩; have hb1 := (hf1.at (k := W.heap.size) id l0).trans HB.out; obtain ⟨m1, n1, l1⟩ := box_cells hb1)
    | (at_mapUpdate; go_loud (refine wpList_putF _ rfl _ _ _ 183 rfl 33 91 lawU Tryz.underlying183 b 0 _ rfl (HM.out.fr ((HF0.out.then0 hf1).alloc _) id) (by decide) _ _ (litU xu) rfl rfl HKU.out ?_); intro w2 hm2 hf2))
  have hz0 := HF0.out.size
  have hz1 := hf1.size
  have hrow := row_of_block (enc := Val.enc) (n := 5) ⟨vk, vb, vn, vs, vu⟩ (World.alloc_heap_new w1 (.cells #[.int .u8 vk, .bool vb, .int .i64 vn, .string vs, .int .u64 vu] 57)) rfl
  exact ⟨rfl, .tuple #[], by simp [results, go_sem, Tryz.results151], rfl, w1.heap.size, by omega, rowsK_frT (enc := Val.enc) (n := 5) (fun _ => rfl) hrow hf2 (fun _ e => by omega), hm2, (((HF0.out.then0 hf1).alloc _).mono (T' := fun j => j = b) fun _ h => h.elim).trans hf2 fun k e => .inl e⟩
end Go.Proofs.YtefepfiijoafbaaGreat
namespace Go.Proofs.YtefepfiijoafbaaGreat
open Go.RowKit Go.Shelf Go.Maps
attribute [local go_sem] Oper.semAt_some
attribute [local go_sem ↓] Go.wp_at_zero Go.wp_at_succ
attribute [local irreducible] wpQuiet
set_option linter.unusedVariables false
set_option linter.unusedSimpArgs false

/-- Nothing yet; what the one write left. -/
def At0 (W : World) (b : Nat) (wr : World) : Prop := MapF Tryz.prog 33 wr b 0 (fun _ => none) ∧ Fr N0 W wr
def At1 (W : World) (b : Nat) (x : Wr) (wr : World) : Prop := ∃ g, W.heap.size ≤ g ∧ RowsK Val.enc 5 wr g (.slice (some ⟨g, 0, none⟩) 1 1) [x.val] ∧ MapF Tryz.prog 33 wr b 1 (putF (fun _ => none) (litU x.uid) (some (.slice (some ⟨g, 0, none⟩) 1 1))) ∧ Fr N0 W wr
theorem At1.fr {W wr w' : World} {b : Nat} {x : Wr} (h : At1 W b x wr) (hf : Fr N0 wr w') : At1 W b x w' := by
  obtain ⟨g, h1, h2, h3, h4⟩ := h
  exact ⟨g, h1, rowsK_frT (enc := Val.enc) (n := 5) (fun _ => rfl) h2 hf fun _ => id, h3.fr hf id, h4.then0 hf⟩
theorem At0.fr {W wr w' : World} {b : Nat} (h : At0 W b wr) (hf : Fr N0 wr w') : At0 W b w' := ⟨h.1.fr hf id, h.2.then0 hf⟩

def AtI (W : World) (b : Nat) (x : Wr) (iv : Value) (wr : World) : Prop := (iv = .int .i64 0 ∧ At0 W b wr) ∨ (iv = .int .i64 1 ∧ At1 W b x wr)

set_option maxRecDepth 100000 in
set_option maxHeartbeats 4000000 in
theorem at1_any (W : World) (R : Nat → Prop) (p : Nat) (q : ByteArray) (l : PL) (N : Nat) (h : IsPL W R p l) (hl : l.Fine q N) (c : Int) (x : Wr) (hcm : l.commits = [⟨c, [x]⟩]) (hx : (Lit.int .u64 x.uid).wf = true) (hd : x.del = false) (hls : l.s.list = false) (t : Int) (hm : ¬ t < l.marked) (hct : c ≤ t) :
    Calls Tryz.prog 98 #[.pointer (some ⟨p, 0, none⟩), .int .u64 t] W fun e w' => ∃ b, e = .returned (.map (some b)) ∧ At1 W b x w' := by
  obtain ⟨vt, vc, cs, h1, -, -, ⟨h5, h6, -⟩, h8⟩ := h
  obtain ⟨m, n, lt⟩ := box_cells h1
  have hn := fun W' (hf : Fr N0 W W') => pNone_any W' p l.s.pred (hf.cell id (m 0)) hl.size'
  obtain ⟨bc, -, hr⟩ := rowsK_of_row (enc := CmV.enc) (n := 2) insC_len (by decide) h5
  have hl1 : l.commits.length = 1 := by rw [hcm]; rfl
  obtain ⟨c0, hcs⟩ : ∃ c0, cs = [c0] := by
    match cs, h6 with
    | [c0], _ => exact ⟨c0, rfl⟩
    | [], h => rw [hl1] at h; simp at h
    | _ :: _ :: _, h => rw [hl1] at h; simp at h
  subst hcs
  obtain ⟨e1, bw, hw, -⟩ := h8 0 (by simp) (by omega)
  simp only [hcm, List.getElem_cons_zero] at e1 hw
  obtain ⟨ct, ca, cn, cc⟩ := c0
  simp only at e1 hw
  subst e1
  obtain ⟨ra, roff, rcap, rfl, r1, r2, r3, -, r5⟩ := hr
  obtain rfl := r3 (by simp)
  have g0 := r5 0 (by simp) 0 (by decide)
  have g1 := r5 0 (by simp) 1 (by decide)
  obtain ⟨wa, woff, wcap, he, w1, w2, w3, -, w5⟩ := hw
  injection he with q1 q2 q3
  subst q1 q2 q3
  obtain rfl := w3 (by simp)
  obtain ⟨d0, d1, d2, d3, d4, d5, d6, d7⟩ := wr_cells (W := W) (w5 0 (by simp))
  simp only [CmV.enc, List.getElem_cons_zero, List.getElem?_cons_zero, List.getElem?_cons_succ, Nat.zero_mul, Nat.add_zero, List.length_singleton] at g0 g1 d0 d1 d2 d3 d4 d5 d6 d7 r1 w1 ⊢
  have hwr := fun W' b (hm : MapF Tryz.prog 33 W' b 0 fun _ => none) => hwrite1_any W' b x hx hd hm
  have c2 := m 2; have c1 := m 8; have c10 := m 10
  simp only [hls] at c2
  simp at c1 c2 c10
  have hmm := @run_makeMap Tryz.prog
  obtain ⟨mk, hmk⟩ : ∃ y, l.marked = y := ⟨_, rfl⟩
  rw [hmk] at hm c1
  have HN := Lib.hid hn; have HW := Lib.hid hwr; have HC := Lib.hid (show W.cell? ⟨p, 2, none⟩ = some (.bool false) ∧ W.cell? ⟨p, 8, none⟩ = some (.int .u64 mk) ∧ W.cell? ⟨p, 10, none⟩ = some (.slice (some ⟨bc, roff, none⟩) 1 rcap) from ⟨c2, c1, c10⟩)
  have HG := Lib.hid (And.intro g0 g1)
  have HD := Lib.hid (And.intro d0 (And.intro d1 (And.intro d2 (And.intro d3 (And.intro d4 (And.intro d5 (And.intro d6 d7)))))))
  clear hn hwr c1 c2 c10 g0 g1 d0 d1 d2 d3 d4 d5 d6 d7 m n h1 h5 h6 h8 hl hcm hl1 hmk r5 w5 r3 w3
  obtain ⟨xd, xu, xp, vk, vb, vn, vs, vu⟩ := x
  simp only [Wr.enc] at *
  subst hd
  have hm0 := MapF.made W Tryz.prog 33
  have HM0 := Lib.hid hm0
  have hct' : ¬ t < ct := by omega
  clear hm0
  go_enter Tryz.func98, Tryz.ntmps98
  go_wp2_with (go_at_call 71; refine (HN.out _ ((Fr.refl N0 W).alloc _)).mono ?_; rintro e w1 ⟨rfl, hf1⟩; have hfw1 := ((Fr.refl N0 W).alloc (.map #[] 0)).then0 hf1; have k1 := hfw1.cell id HC.out.1; have k2 := hfw1.cell id HC.out.2.1; have k3 := hfw1.cell id HC.out.2.2)
  have H0 : At0 W W.heap.size w1 := ⟨HM0.out.fr hf1 id, hfw1⟩
  have HH0 := Lib.hid H0
  clear H0 k1 k2 k3 hfw1 hf1
  go_loopw [27] (fun iv wr => AtI W W.heap.size ⟨false, xu, xp, ⟨vk, vb, vn, vs, vu⟩⟩ iv wr) (fun iv _ => 1 - (intOf iv).toNat)
  case atStart => exact .inl ⟨rfl, HH0.out⟩
  case round =>
    rcases hrel with ⟨rfl, h0⟩ | ⟨rfl, h1⟩
    · have g0 := h0.2.cell id HG.out.1
      have g1 := h0.2.cell id HG.out.2
      have HH := Lib.hid h0
      clear h0 HH0
      go_wp2
      go_loopw [38] (fun iv wr => AtI W W.heap.size ⟨false, xu, xp, ⟨vk, vb, vn, vs, vu⟩⟩ iv wr) (fun iv _ => 1 - (intOf iv).toNat)
      case atStart => exact .inl ⟨rfl, HH.out.fr ((Fr.refl N0 _).alloc _)⟩
      case round =>
        rcases hrel with ⟨rfl, h0⟩ | ⟨rfl, h1⟩
        · have d0 := h0.2.cell id HD.out.1; have d1 := h0.2.cell id HD.out.2.1; have d2 := h0.2.cell id HD.out.2.2.1; have d3 := h0.2.cell id HD.out.2.2.2.1
          have d4 := h0.2.cell id HD.out.2.2.2.2.1; have d5 := h0.2.cell id HD.out.2.2.2.2.2.1; have d6 := h0.2.cell id HD.out.2.2.2.2.2.2.1; have d7 := h0.2.cell id HD.out.2.2.2.2.2.2.2
          have k1 := fun o => (h0.2.alloc o).cell id HC.out.1
          have HQ := Lib.hid h0
          clear h0 HH g0 g1
          go_wp2_with fail
          refine wp_plainN ?_
          go_region_law (first
            | (go_simp; go_at_call 151; refine (HW.out _ W.heap.size ((HQ.out.fr (((Fr.refl N0 _).alloc _).drew)).1)).mono ?_; rintro e w5 ⟨rfl, g, hg, hrow, hmap, hf5⟩)
            | fail)
          all_goals
            have hz := HQ.out.2.size
            have hA1 : At1 W W.heap.size ⟨false, xu, xp, ⟨vk, vb, vn, vs, vu⟩⟩ w5 := ⟨g, by
              have : (wr.alloc (.cells #[.bool false, .int .u64 xu, .string xp, .int .u8 vk, .bool vb, .int .i64 vn, .string vs, .int .u64 vu] 61)).drew.heap.size = wr.heap.size + 1 := by simp [World.drew]
              rw [this] at hg; omega, hrow, hmap, ((HQ.out.2.alloc _).drew).trans hf5 fun k e => .inr (by rw [e]; exact Nat.le_refl _)⟩
            have HA1 := Lib.hid hA1
            clear hA1 hrow hmap hf5
            go_wp2
            go_roundw
            case rel => exact .inr ⟨by first | rfl | go_num, HA1.out⟩
            case measure => simp [intOf]
        · have HQ := Lib.hid h1
          clear h1 HH g0 g1
          go_wp2
          go_roundw
          case rel => exact .inr ⟨by first | rfl | go_num, HQ.out⟩
          case measure => simp [intOf]
    · have HH := Lib.hid h1
      clear h1
      go_wp2
      go_ret
      exact ⟨_, rfl, HH.out⟩
set_option maxRecDepth 100000 in
set_option maxHeartbeats 4000000 in
theorem at0_any (W : World) (R : Nat → Prop) (p : Nat) (q : ByteArray) (l : PL) (N : Nat) (h : IsPL W R p l) (hl : l.Fine q N) (c : Int) (x : Wr) (hcm : l.commits = [⟨c, [x]⟩]) (hx : (Lit.int .u64 x.uid).wf = true) (hd : x.del = false) (hls : l.s.list = false) (t : Int) (hm : ¬ t < l.marked) (hct : t < c) :
    Calls Tryz.prog 98 #[.pointer (some ⟨p, 0, none⟩), .int .u64 t] W fun e w' => ∃ b, e = .returned (.map (some b)) ∧ At0 W b w' := by
  obtain ⟨vt, vc, cs, h1, -, -, ⟨h5, h6, -⟩, h8⟩ := h
  obtain ⟨m, n, lt⟩ := box_cells h1
  have hn := fun W' (hf : Fr N0 W W') => pNone_any W' p l.s.pred (hf.cell id (m 0)) hl.size'
  obtain ⟨bc, -, hr⟩ := rowsK_of_row (enc := CmV.enc) (n := 2) insC_len (by decide) h5
  have hl1 : l.commits.length = 1 := by rw [hcm]; rfl
  obtain ⟨c0, hcs⟩ : ∃ c0, cs = [c0] := by
    match cs, h6 with
    | [c0], _ => exact ⟨c0, rfl⟩
    | [], h => rw [hl1] at h; simp at h
    | _ :: _ :: _, h => rw [hl1] at h; simp at h
  subst hcs
  obtain ⟨e1, bw, hw, -⟩ := h8 0 (by simp) (by omega)
  simp only [hcm, List.getElem_cons_zero] at e1 hw
  obtain ⟨ct, ca, cn, cc⟩ := c0
  simp only at e1 hw
  subst e1
  obtain ⟨ra, roff, rcap, rfl, r1, r2, r3, -, r5⟩ := hr
  obtain rfl := r3 (by simp)
  have g0 := r5 0 (by simp) 0 (by decide)
  have g1 := r5 0 (by simp) 1 (by decide)
  obtain ⟨wa, woff, wcap, he, w1, w2, w3, -, w5⟩ := hw
  injection he with q1 q2 q3
  subst q1 q2 q3
  obtain rfl := w3 (by simp)
  obtain ⟨d0, d1, d2, d3, d4, d5, d6, d7⟩ := wr_cells (W := W) (w5 0 (by simp))
  simp only [CmV.enc, List.getElem_cons_zero, List.getElem?_cons_zero, List.getElem?_cons_succ, Nat.zero_mul, Nat.add_zero, List.length_singleton] at g0 g1 d0 d1 d2 d3 d4 d5 d6 d7 r1 w1 ⊢
  have hwr := fun W' b (hm : MapF Tryz.prog 33 W' b 0 fun _ => none) => hwrite1_any W' b x hx hd hm
  have c2 := m 2; have c1 := m 8; have c10 := m 10
  simp only [hls] at c2
  simp at c1 c2 c10
  have hmm := @run_makeMap Tryz.prog
  obtain ⟨mk, hmk⟩ : ∃ y, l.marked = y := ⟨_, rfl⟩
  rw [hmk] at hm c1
  have HN := Lib.hid hn; have HW := Lib.hid hwr; have HC := Lib.hid (show W.cell? ⟨p, 2, none⟩ = some (.bool false) ∧ W.cell? ⟨p, 8, none⟩ = some (.int .u64 mk) ∧ W.cell? ⟨p, 10, none⟩ = some (.slice (some ⟨bc, roff, none⟩) 1 rcap) from ⟨c2, c1, c10⟩)
  have HG := Lib.hid (And.intro g0 g1)
  have HD := Lib.hid (And.intro d0 (And.intro d1 (And.intro d2 (And.intro d3 (And.intro d4 (And.intro d5 (And.intro d6 d7)))))))
  clear hn hwr c1 c2 c10 g0 g1 d0 d1 d2 d3 d4 d5 d6 d7 m n h1 h5 h6 h8 hl hcm hl1 hmk r5 w5 r3 w3
  obtain ⟨xd, xu, xp, vk, vb, vn, vs, vu⟩ := x
  simp only [Wr.enc] at *
  subst hd
  have hm0 := MapF.made W Tryz.prog 33
  have HM0 := Lib.hid hm0
  clear hm0
  go_enter Tryz.func98, Tryz.ntmps98
  go_wp2_with (go_at_call 71; refine (HN.out _ ((Fr.refl N0 W).alloc _)).mono ?_; rintro e w1 ⟨rfl, hf1⟩; have hfw1 := ((Fr.refl N0 W).alloc (.map #[] 0)).then0 hf1; have k1 := hfw1.cell id HC.out.1; have k2 := hfw1.cell id HC.out.2.1; have k3 := hfw1.cell id HC.out.2.2)
  have H0 : At0 W W.heap.size w1 := ⟨HM0.out.fr hf1 id, hfw1⟩
  have HH0 := Lib.hid H0
  clear H0 k1 k2 k3 hfw1 hf1
  go_loopw [27] (fun iv wr => iv = .int .i64 0 ∧ At0 W W.heap.size wr) (fun iv _ => 0)
  case atStart => exact ⟨rfl, HH0.out⟩
  case round =>
    obtain ⟨rfl, h0⟩ := hrel
    have g0 := h0.2.cell id HG.out.1
    have g1 := h0.2.cell id HG.out.2
    have HH := Lib.hid h0
    clear h0 HH0
    go_wp2
    go_ret
    exact ⟨_, rfl, HH.out.fr ((Fr.refl N0 _).alloc _)⟩
end Go.Proofs.YtefepfiijoafbaaGreat
namespace Go.Proofs.YtefepfiijoafbaaGreat
open Go.RowKit Go.Shelf Go.Maps
attribute [local go_sem] Oper.semAt_some
attribute [local irreducible] wpQuiet
set_option linter.unusedVariables false
set_option linter.unusedSimpArgs false

def OneVal (W : World) (x : Val) (e : Ending) (w' : World) : Prop := ∃ v' g, e = .returned v' ∧ RowsK Val.enc 5 w' g v' [x] ∧ W.heap.size ≤ g ∧ Fr N0 W w'
set_option maxRecDepth 100000 in
set_option maxHeartbeats 2000000 in
theorem pValues1_any (W : World) (R : Nat → Prop) (p : Nat) (q : ByteArray) (l : PL) (N : Nat) (h : IsPL W R p l) (hl : l.Fine q N) (c : Int) (x : Wr) (hcm : l.commits = [⟨c, [x]⟩]) (hx : (Lit.int .u64 x.uid).wf = true) (hd : x.del = false) (hls : l.s.list = false) (t : Int) (hm : ¬ t < l.marked) (hct : c ≤ t) :
    Calls Tryz.prog 102 #[.pointer (some ⟨p, 0, none⟩), .int .u64 x.uid, .int .u64 t] W (OneVal W x.val) := by
  have ha := at1_any W R p q l N h hl c x hcm hx hd hls t hm hct
  have hku := keyOf_int_mk Tryz.underlying33 hx
  have HA := Lib.hid ha; have HKU := Lib.hid hku
  clear ha hku h hl hcm hx hd hls hm hct
  obtain ⟨u, hu⟩ : ∃ u, x.uid = u := ⟨_, rfl⟩
  rw [hu] at HKU ⊢
  have HU := Lib.hid hu
  clear hu
  go_enter Tryz.func102, Tryz.ntmps102
  go_wp2_with fail
  refine HA.out.mono ?_
  rintro e w1 ⟨b, rfl, g, hg, hrow, hmap, hf1⟩
  rw [HU.out] at hmap
  have hlk : (Instr.lookup 183 (.map (some b)) (.int .u64 u) false).run Tryz.prog w1 = .ok (.slice (some ⟨g, 0, none⟩) 1 1) w1 := by
    have := (hmap.look lawU Tryz.underlying183 (zeroValsR _) HKU.out).1
    rw [show Lit.int .u64 u = litU u from rfl, putF_same] at this
    exact this
  have hcl := cloneV_any w1 g _ [x.val] hrow (by simp)
  have HCL := Lib.hid hcl; have HF1 := Lib.hid hf1
  clear hcl hrow hmap hf1
  go_wp2_with (go_at_call 154; refine HCL.out.mono ?_; rintro e w2 ⟨v', rfl, hr, -, hf2⟩)
  go_ret
  obtain ⟨g2, hg2, hr2⟩ := rowsK_of_row (enc := Val.enc) (n := 5) (fun _ => rfl) (by decide) hr
  exact ⟨v', g2, rfl, hr2, Nat.le_trans HF1.out.size hg2, HF1.out.then0 hf2⟩
set_option maxRecDepth 100000 in
set_option maxHeartbeats 2000000 in
theorem pValues0_any (W : World) (R : Nat → Prop) (p : Nat) (q : ByteArray) (l : PL) (N : Nat) (h : IsPL W R p l) (hl : l.Fine q N) (c : Int) (x : Wr) (hcm : l.commits = [⟨c, [x]⟩]) (hx : (Lit.int .u64 x.uid).wf = true) (hd : x.del = false) (hls : l.s.list = false) (t : Int) (hm : ¬ t < l.marked) (hct : t < c) :
    Calls Tryz.prog 102 #[.pointer (some ⟨p, 0, none⟩), .int .u64 x.uid, .int .u64 t] W fun e w' => e = .returned (.slice none 0 0) ∧ Fr N0 W w' := by
  have ha := at0_any W R p q l N h hl c x hcm hx hd hls t hm hct
  have hku := keyOf_int_mk Tryz.underlying33 hx
  have HA := Lib.hid ha; have HKU := Lib.hid hku
  clear ha hku h hl hcm hx hd hls hm hct
  obtain ⟨u, hu⟩ : ∃ u, x.uid = u := ⟨_, rfl⟩
  rw [hu] at HKU ⊢
  clear hu
  go_enter Tryz.func102, Tryz.ntmps102
  go_wp2_with fail
  refine HA.out.mono ?_
  rintro e w1 ⟨b, rfl, hmap, hf1⟩
  have hlk : (Instr.lookup 183 (.map (some b)) (.int .u64 u) false).run Tryz.prog w1 = .ok (.slice none 0 0) w1 := (hmap.look lawU Tryz.underlying183 (zeroValsR _) HKU.out).1
  have hcl := cloneV_any w1 0 (.slice none 0 0) [] (RowsK.nil _ _ _ _) (by simp)
  have HCL := Lib.hid hcl; have HF1 := Lib.hid hf1
  clear hcl hmap hf1
  go_wp2_with (go_at_call 154; refine HCL.out.mono ?_; rintro e w2 ⟨v', rfl, hr, hnil, hf2⟩; (first | obtain rfl := hnil trivial | obtain rfl := hnil rfl))
  go_ret
  exact ⟨rfl, HF1.out.then0 hf2⟩

def OneVal2 (W : World) (x : Val) (e : Ending) (w' : World) : Prop := ∃ v' g, e = .returned (.tuple #[v', .int .i64 0]) ∧ RowsK Val.enc 5 w' g v' [x] ∧ W.heap.size ≤ g ∧ Fr N0 W w'
set_option maxRecDepth 100000 in
set_option maxHeartbeats 2000000 in
theorem sValues1_any (W : World) (R : Nat → Prop) (p : Nat) (s : SS) (N : Nat) (h : IsState W R p s N) (hF : s.Fine N) (hN : N ≤ 100000) (q : ByteArray) (hq : q.size ≤ maxLen) (l : PL) (hl : s.lists q = some l) (c : Int) (x : Wr) (hcm : l.commits = [⟨c, [x]⟩]) (hx : (Lit.int .u64 x.uid).wf = true) (hd : x.del = false) (hls : l.s.list = false) (t seen : Int) (hm : ¬ t < l.marked) (hct : c ≤ t) (hr : sReady s q t seen = 0) :
    Calls Tryz.prog 50 #[.pointer (some ⟨p, 0, none⟩), .string q, .int .u64 t, .int .i64 seen, .int .u64 x.uid] W (OneVal2 W x.val) := by
  have hrd := sReady_any W R p s N h hF hN q hq t seen
  rw [hr] at hrd
  obtain ⟨tb, m, rfl, h⟩ := h
  have hk := Go.WideMaps.keyOf_string_mk Tryz.underlying9 hq
  have hlk := fun w' (hf : Fr N0 W w') => ((h.mapL.fr hf id).look lawSt Tryz.underlying119 (zeroPLR _) hk).1
  simp only [show Lit.string q.data.toList = litS q from rfl, viewL_at, hl, Option.map_some, Option.getD_some] at hlk
  have hpv := fun w' (hf : Fr N0 W w') => pValues1_any w' (m.RL q) (m.pt q) q l N ((h.lists.1 _ _ hl).fr hf fun _ _ => id) (hF.lists _ _ hl) c x hcm hx hd hls t hm hct
  have hc := h.cells
  have lt := lt_of_block hc
  unfold StB.Cells at hc
  obtain ⟨pt, hpt⟩ : ∃ y, m.pt q = y := ⟨_, rfl⟩
  simp only [hpt] at hlk hpv
  obtain ⟨p, mL, mS, mF⟩ := tb
  simp only at *
  have HRD := Lib.hid hrd; have HLK := Lib.hid hlk; have HPV := Lib.hid hpv; have HC := Lib.hid hc
  clear hrd hlk hpv hc h hF hl hcm hx hd hls hm hct hr hk hpt
  go_enter Tryz.func50, Tryz.ntmps50
  go_wp2_with (go_at_call 49; refine HRD.out.mono ?_; rintro e w1 ⟨rfl, hf1⟩; have hb := (hf1.at id lt).trans HC.out; obtain ⟨m1, n1, l1⟩ := box_cells hb; have hlk := HLK.out w1 hf1)
  have HF1 := Lib.hid hf1
  clear hf1 hb
  go_wp2_with (go_at_call 102; refine (HPV.out w1 HF1.out).mono ?_; rintro e w2 ⟨v', g, rfl, hrow, hg, hf2⟩)
  go_ret2
  exact ⟨v', g, rfl, hrow, Nat.le_trans HF1.out.size hg, HF1.out.then0 hf2⟩
set_option maxRecDepth 100000 in
set_option maxHeartbeats 2000000 in
theorem sValues0_any (W : World) (R : Nat → Prop) (p : Nat) (s : SS) (N : Nat) (h : IsState W R p s N) (hF : s.Fine N) (hN : N ≤ 100000) (q : ByteArray) (hq : q.size ≤ maxLen) (l : PL) (hl : s.lists q = some l) (c : Int) (x : Wr) (hcm : l.commits = [⟨c, [x]⟩]) (hx : (Lit.int .u64 x.uid).wf = true) (hd : x.del = false) (hls : l.s.list = false) (t seen : Int) (hm : ¬ t < l.marked) (hct : t < c) (hr : sReady s q t seen = 0) :
    Calls Tryz.prog 50 #[.pointer (some ⟨p, 0, none⟩), .string q, .int .u64 t, .int .i64 seen, .int .u64 x.uid] W fun e w' => e = .returned (.tuple #[.slice none 0 0, .int .i64 0]) ∧ Fr N0 W w' := by
  have hrd := sReady_any W R p s N h hF hN q hq t seen
  rw [hr] at hrd
  obtain ⟨tb, m, rfl, h⟩ := h
  have hk := Go.WideMaps.keyOf_string_mk Tryz.underlying9 hq
  have hlk := fun w' (hf : Fr N0 W w') => ((h.mapL.fr hf id).look lawSt Tryz.underlying119 (zeroPLR _) hk).1
  simp only [show Lit.string q.data.toList = litS q from rfl, viewL_at, hl, Option.map_some, Option.getD_some] at hlk
  have hpv := fun w' (hf : Fr N0 W w') => pValues0_any w' (m.RL q) (m.pt q) q l N ((h.lists.1 _ _ hl).fr hf fun _ _ => id) (hF.lists _ _ hl) c x hcm hx hd hls t hm hct
  have hc := h.cells
  have lt := lt_of_block hc
  unfold StB.Cells at hc
  obtain ⟨pt, hpt⟩ : ∃ y, m.pt q = y := ⟨_, rfl⟩
  simp only [hpt] at hlk hpv
  obtain ⟨p, mL, mS, mF⟩ := tb
  simp only at *
  have HRD := Lib.hid hrd; have HLK := Lib.hid hlk; have HPV := Lib.hid hpv; have HC := Lib.hid hc
  clear hrd hlk hpv hc h hF hl hcm hx hd hls hm hct hr hk hpt
  go_enter Tryz.func50, Tryz.ntmps50
  go_wp2_with (go_at_call 49; refine HRD.out.mono ?_; rintro e w1 ⟨rfl, hf1⟩; have hb := (hf1.at id lt).trans HC.out; obtain ⟨m1, n1, l1⟩ := box_cells hb; have hlk := HLK.out w1 hf1)
  have HF1 := Lib.hid hf1
  clear hf1 hb
  go_wp2_with (go_at_call 102; refine (HPV.out w1 HF1.out).mono ?_; rintro e w2 ⟨rfl, hf2⟩)
  go_ret2
  exact ⟨rfl, HF1.out.then0 hf2⟩
end Go.Proofs.YtefepfiijoafbaaGreat
