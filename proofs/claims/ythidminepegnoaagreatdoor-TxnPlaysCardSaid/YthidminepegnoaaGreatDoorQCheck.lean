/- What is outstanding: the program's Again. Why a step may not be done. -/
import Derived.Test.YthidminepegnoaaGreatDoorQStaged
import Derived.Test.YthidminepegnoaaGreatDoorQRMay
namespace Go.Proofs.YthidminepegnoaaGreatDoor
open Go.RowKit Go.Shelf Go.Maps Go.Sort
attribute [local go_sem] Oper.semAt_some
attribute [local irreducible] wpQuiet
set_option linter.unusedVariables false
set_option linter.unusedSimpArgs false

/-- What a group is sent, its writes in a block of which G is so. -/
def El (W : World) (G : Nat → Prop) (r : OutV) (o : Out) : Prop :=
  (r.group = o.group ∧ r.okind = o.okind ∧ r.n = o.n ∧ r.ostart = o.ostart ∧ r.skind = o.skind ∧ r.sstart = o.sstart ∧ r.scommit = o.scommit) ∧ (r.vk = .slice none 0 0 ∧ o.okeys = []) ∧ (r.vn = .slice none 0 0 ∧ o.oneeds = []) ∧ ∃ b, (o.swrites ≠ [] → G b) ∧ Wrs W b r.vw o.swrites
theorem rows_empty {α : Type} {enc : α → List Value} {n : Nat} {w w' : World} {b : Nat} {v : Value} {xs : List α} (h : RowsK enc n w b v xs) (h0 : xs = []) : RowsK enc n w' b v xs := by
  obtain ⟨a, off, cap, h1, h2, h3, h4, h5, h6⟩ := h
  exact ⟨a, off, cap, h1, h2, h3, h4, h5, fun i hi => by subst h0; simp at hi⟩
theorem rows_lt {w : World} {b : Nat} {v : Value} {xs : List Wr} (h : Wrs w b v xs) (h0 : xs ≠ []) : b < w.heap.size := by
  obtain ⟨a, off, cap, h1, h2, h3, h4, h5, h6⟩ := h
  have h7 := h6 0 (List.length_pos_iff.2 h0) 0 (by omega)
  exact lt_of_cell (p := ⟨b, off + 0 * 8 + 0, none⟩) h7
theorem El.next {W W' : World} {G G' T : Nat → Prop} {r : OutV} {o : Out} (h : El W G r o) (hf : Fr T W W') (hT : ∀ b, G b → ¬ T b) (hG : ∀ b, G b → b < W.heap.size → G' b) : El W' G' r o := by
  obtain ⟨h1, h2, h3, b, h4, h5⟩ := h
  refine ⟨h1, h2, h3, b, ?_, ?_⟩
  · exact fun hne => hG b (h4 hne) (rows_lt h5 hne)
  · by_cases hne : o.swrites = []
    · exact rows_empty h5 hne
    · exact rowsK_on (enc := Wr.enc) (n := 8) (fun _ => rfl) h5 hf (hT b (h4 hne))
theorem El.is {W : World} {G : Nat → Prop} {r : OutV} {o : Out} (h : El W G r o) : r.Is W o := by
  obtain ⟨h1, ⟨h2, h2'⟩, ⟨h3, h3'⟩, b, h4, h5⟩ := h
  exact ⟨h1, ⟨0, by rw [h2, h2']; exact Strs.nil _ _⟩, ⟨0, by rw [h3, h3']; exact RowsK.nil _ _ _ _⟩, ⟨b, h5⟩⟩
/-- A function that answers what a group is sent. -/
def OneOut (w : World) (gf : FuncId) (v : Value) (ls : List Int) (o : Int → Out) : Prop :=
  ∀ g ∈ ls, ∀ W, Fr N0 w W → Calls Tryz.prog gf #[v, .int .u32 g] W fun e w' => ∃ r : OutV, e = .returned (.agg r.enc.toArray) ∧ El w' (fun b => W.heap.size ≤ b) r (o g) ∧ Fr N0 W w'
theorem slice_one {α : Type} {enc : α → List Value} {n : Nat} {w : World} {b : Nat} {v : Value} {xs : List α} (h : RowsK enc n w b v xs) : v.oneCell' = true := by
  obtain ⟨a, _, c, e, _⟩ := h; rw [e]; rfl
theorem strs_one {w : World} {b : Nat} {v : Value} {xs : List ByteArray} (h : Strs w b v xs) : v.oneCell' = true := by
  obtain ⟨a, _, c, e, _⟩ := h; rw [e]; rfl
theorem OutV.Is.one {w : World} {r : OutV} {o : Out} (h : r.Is w o) : ∀ u ∈ r.enc, u.oneCell' = true := by
  obtain ⟨_, hk⟩ := h.ks
  obtain ⟨_, hn⟩ := h.ns
  obtain ⟨_, hw⟩ := h.ws
  intro u hu
  simp only [OutV.enc, List.mem_cons, List.not_mem_nil, or_false] at hu
  rcases hu with h | h | h | h | h | h | h | h | h | h | h | h | h | h | h | h | h | h | h | h | h | h | h | h | h | h <;> subst h <;> first | rfl | exact strs_one hk | exact slice_one hn | exact slice_one hw

set_option maxRecDepth 100000 in
set_option maxHeartbeats 4000000 in
theorem xeach_any (w : World) (Bt : Nat) (ph st cm : Int) (vw vk vn vg vl : Value) (fl : Bool) (hc : ∀ i, w.cell? ⟨Bt, i, none⟩ = #[.int .u8 ph, .int .u64 st, .int .u64 cm, vw, vk, vn, vg, vl, .bool fl][i]?) (b : Nat) (ls : List Int) (hl : Ints .u32 w b vl ls) (hlen : ls.length ≤ 1000)
    (gf : FuncId) (o : Int → Out) (hone : OneOut w gf (.agg #[.int .u8 ph, .int .u64 st, .int .u64 cm, vw, vk, vn, vg, vl, .bool fl]) ls o) (eg : ∀ args w, (callFunc gf args).run Tryz.prog w = .ok (.enter gf args) w) :
    Calls Tryz.prog 51 #[.func (.func gf) #[] #[], .pointer (some ⟨Bt, 0, none⟩)] w fun e w' => ∃ v', e = .returned v' ∧ Outs w' v' (ls.map o) ∧ Fr N0 w w' := by
  obtain ⟨i0, hi, hz0, hz1, hz2⟩ := info_parts infoOut
  obtain ⟨a, off, cap, rfl, h1, h2, h3, -, h5, -⟩ := hl
  have HC := Lib.hid h5; have HONE := Lib.hid hone; have HB := Lib.hid hc
  have hcf := fun (W : World) (hf : Fr N0 w W) i (u : Value) (hu : #[.int .u8 ph, .int .u64 st, .int .u64 cm, vw, vk, vn, vg, .slice a ls.length cap, .bool fl][i]? = some u) => hf.cell (p := ⟨Bt, i, none⟩) id ((hc i).trans hu)
  have HCF := Lib.hid hcf
  clear h5 hone hcf
  go_enter Tryz.func51, Tryz.ntmps51
  go_wp2
  clear hc
  go_loopw [4, 10] (fun ov iv wr => ∃ (k : Nat) (rs : List OutV), k ≤ ls.length ∧ iv = .int .i64 k ∧ Hid (rs.length = k) ∧ Hid (∀ i (h : i < rs.length) (h' : i < ls.length), El wr (fun b => ov.ownBlock ≠ some b) rs[i] (o ls[i])) ∧ wr.ownsRow w.heap.size 89 26 ov k (rs.flatMap OutV.enc) ∧ Fr N0 w wr) (fun _ iv _ => ls.length - (intOf iv).toNat)
  case atStart => exact ⟨0, [], Nat.zero_le _, rfl, rfl, fun i h => by simp at h, World.ownsRow_nil _ _ _ _, Fr.refl _ _⟩
  case round =>
    obtain ⟨k, rs, hk, rfl, hrl, his, hrow, hfr⟩ := hrel
    have hwsz := hfr.size
    have t0 := HCF.out wr hfr 0 _ rfl; have t1 := HCF.out wr hfr 1 _ rfl; have t2 := HCF.out wr hfr 2 _ rfl; have t3 := HCF.out wr hfr 3 _ rfl; have t4 := HCF.out wr hfr 4 _ rfl
    have t5 := HCF.out wr hfr 5 _ rfl; have t6 := HCF.out wr hfr 6 _ rfl; have t7 := HCF.out wr hfr 7 _ rfl; have t8 := HCF.out wr hfr 8 _ rfl
    by_cases hlt : k < ls.length
    · obtain rfl := h3 (by omega)
      have c0 := hfr.cell id (HC.out k hlt : _ = some (.int .u32 ls[k]))
      have hcall := HONE.out ls[k] (List.getElem_mem hlt)
      have hnext : ∀ (r : OutV) (w1 w2 : World) (g : Nat), Fr N0 wr w1 → El w1 (fun b => wr.heap.size ≤ b) r (o ls[k]) → Fr (fun b => u4.ownBlock = some b) w1 w2 → (u4.ownBlock = some g ∨ w1.heap.size ≤ g) →
          (rs ++ [r]).length = k + 1 ∧ ∀ i (h : i < (rs ++ [r]).length) (h' : i < ls.length), El w2 (fun b => some g ≠ some b) (rs ++ [r])[i] (o ls[i]) := fun r w1 w2 g hf hr hf2 hg => by
        have hl := hrl.out
        have hlt4 : ∀ b, u4.ownBlock = some b → b < wr.heap.size := fun b h => (hrow.lt b h).2
        have hsz1 := hf.size
        refine ⟨by simp [hl], fun i h h' => ?_⟩
        by_cases hi : i < rs.length
        · rw [List.getElem_append_left hi]
          refine ((his.out i hi h').next (G' := fun b => u4.ownBlock ≠ some b ∧ b < wr.heap.size) hf (fun _ _ h => h) (fun b h1 h2 => ⟨h1, h2⟩)).next hf2 (fun b h1 h2 => h1.1 h2) (fun b h1 h2 h3 => ?_)
          rw [Option.some.injEq] at h3; subst h3
          rcases hg with hg | hg
          · exact h1.1 hg
          · omega
        · have hik : i = k := by simp at h; omega
          subst hik
          rw [List.getElem_append_right (by omega)]
          have hr2 : El w2 (fun b => some g ≠ some b) r (o ls[i]) := hr.next hf2 (fun b h1 h2 => by have := hlt4 b h2; omega) (fun b h1 h2 h3 => by
            rw [Option.some.injEq] at h3; subst h3
            rcases hg with hg | hg
            · have := hlt4 _ hg; omega
            · omega)
          simpa [hl] using hr2
      obtain ⟨x, hx⟩ : ∃ x, ls[k] = x := ⟨_, rfl⟩
      rw [hx] at c0
      simp only [hx] at hcall hnext
      have hki : (k : Int) < (ls.length : Int) := by omega
      have HX := Lib.hid hcall; have HNX := Lib.hid hnext; have HROW := Lib.hid hrow; have HF := Lib.hid hfr
      clear hcall hnext hrow hrl his hx
      go_wp2_with (first
        | (at_builtin; go_loud (refine wpList_append_lies _ rfl _ _ 33 rfl w.heap.size 89 i0 zeroOutV 26 248 Tryz.underlying33 hi hz0 hz1 hz2 rfl (by decide) (u4) (k) _ rfl (HROW1.out.alloc _) ⟨w1.heap.size, 0, none⟩ 1 1 ([.int .u32 g1, .int .u8 k1, .int .u32 n1, .int .u64 s1, vk1, vn1, .string ⟨#[]⟩, .int .u32 0, .int .u32 0, .int .u64 0, .int .u8 q1, .int .u64 q2, .int .u64 q3, vw1, .string ⟨#[]⟩, .int .u8 0, .bool false, .bool false, .bool false, .bool false, .bool false, .bool false, .string ⟨#[]⟩, .int .u64 0, .slice none 0 0, .slice none 0 0]) rfl rfl (World.news_of_block (cs := ([.int .u32 g1, .int .u8 k1, .int .u32 n1, .int .u64 s1, vk1, vn1, .string ⟨#[]⟩, .int .u32 0, .int .u32 0, .int .u64 0, .int .u8 q1, .int .u64 q2, .int .u64 q3, vw1, .string ⟨#[]⟩, .int .u8 0, .bool false, .bool false, .bool false, .bool false, .bool false, .bool false, .string ⟨#[]⟩, .int .u64 0, .slice none 0 0, .slice none 0 0]).toArray) (t := 89) (fr := (0, 0)) (heap_alloc_new w1 _)) HONE1.out (by omega) (by unfold maxLen; omega) (by omega) (by simp; omega) (w1.heap.size + 1) (by simp) ?_); intro g gc w2 hown hgrow hfresh hlt1)
        | (go_loud (refine (HX.out _ HF.out).mono ?_); rintro e w1 ⟨⟨g1, k1, n1, s1, vk1, vn1, q1, q2, q3, vw1⟩, rfl, hr1, hf1⟩; have hone1 := hr1.is.one; have HR1 := Lib.hid hr1; have hro := HROW.out.fr0 hf1; have HROW1 := Lib.hid hro; have hwz1 := hf1.size; simp only [OutV.enc] at hone1 ⊢; have HONE1 := Lib.hid hone1; clear hr1 hone1 hro))
      go_roundw
      case rel =>
        have hfx : Fr (fun b => u4.ownBlock = some b) w1 w2 := ((Fr.refl _ _).alloc _).grown hgrow fun q e => .inl e
        obtain ⟨z1, z2⟩ := HNX.out _ w1 w2 g hf1 HR1.out hfx (hfresh.imp id fun h => by omega)
        exact ⟨k + 1, rs ++ [_], by omega, by go_num, z1, z2, by rw [flat_snoc]; exact hown, (HF.out.then0 hf1).trans hfx fun q e => .inr (HROW.out.lt q e).1⟩
      case measure => simp [intOf]; omega
    · obtain rfl : k = ls.length := by omega
      have hl := hrl.out
      rw [← hl] at hrow
      obtain ⟨bb, hbb, hrows⟩ := rowsK_of_row (enc := OutV.enc) (n := 26) (fun _ => rfl) (by decide) hrow
      have hfin : Outs wr u4 (ls.map o) := ⟨bb, rs, hrows, by rw [List.length_map]; exact hl, fun i h h' => by rw [List.getElem_map]; exact (his.out i h (by simpa using h')).is⟩
      have HFIN := Lib.hid hfin; have HF := Lib.hid hfr
      clear hfin hrows hrow hrl his hfr hl
      go_wp2
      go_ret
      exact ⟨_, rfl, HFIN.out, HF.out⟩

end Go.Proofs.YthidminepegnoaaGreatDoor
namespace Go.Proofs.YthidminepegnoaaGreatDoor
open Go.RowKit Go.Shelf Go.Maps Go.Sort
attribute [local go_sem] Oper.semAt_some
attribute [local irreducible] wpQuiet
set_option linter.unusedVariables false
set_option linter.unusedSimpArgs false

set_option maxRecDepth 100000 in
set_option maxHeartbeats 2000000 in
theorem xcheck_any (w : World) (v : Value) (t : Txn) (h : IsTxn w v t) (hv : Inv t) (b : Nat) (vp : Value) (ps : List Int) (hp : Ints .u8 w b vp ps) (hl : ps.length ≤ 1000) :
    Calls Tryz.prog 62 #[v, vp] w fun e w' => e = .returned (.int .i64 (if t.phase ∈ ps then 0 else 3)) ∧ Fr N0 w w' := by
  have hM := fun W (hf : Fr N0 w W) => xMay_any W v t (h.fr0 hf) hv
  have hC := fun W (hf : Fr N0 w W) => contP_any W b vp ps (hp.fr0 hf) t.phase (by omega)
  obtain ⟨vw, vk, vn, vg, vl, rfl, h⟩ := h
  clear h hv hp
  obtain ⟨ph, st, cm, ws, ks, ns, gs, ls, fl⟩ := t
  simp only at hM hC ⊢
  have HM := Lib.hid hM
  clear hM
  by_cases hm : ph ∈ ps
  · have hd : decide (ph ∈ ps) = true := decide_eq_true hm
    rw [hd] at hC
    rw [if_pos hm]
    have HC := Lib.hid hC
    clear hC hm hd
    go_enter Tryz.func62, Tryz.ntmps62
    go_wp2_with (first
      | (go_at_call 14; go_loud (refine (HM.out _ ((Fr.refl _ _).alloc _)).mono ?_); rintro e w1 ⟨rfl, hf1⟩; have hB1 := boxS_keep hf1 (boxS_new w _ _); have m1 := hB1.1; have HB := Lib.hid hB1; clear hB1)
      | (go_at_call 91; go_loud (refine (HC.out _ HB.out.2.2).mono ?_); rintro e w2 ⟨rfl, hf2⟩))
    go_ret
    exact ⟨rfl, HB.out.2.2.then0 hf2⟩
  · have hd : decide (ph ∈ ps) = false := decide_eq_false hm
    rw [hd] at hC
    rw [if_neg hm]
    have HC := Lib.hid hC
    clear hC hm hd
    go_enter Tryz.func62, Tryz.ntmps62
    go_wp2_with (first
      | (go_at_call 14; go_loud (refine (HM.out _ ((Fr.refl _ _).alloc _)).mono ?_); rintro e w1 ⟨rfl, hf1⟩; have hB1 := boxS_keep hf1 (boxS_new w _ _); have m1 := hB1.1; have HB := Lib.hid hB1; clear hB1)
      | (go_at_call 91; go_loud (refine (HC.out _ HB.out.2.2).mono ?_); rintro e w2 ⟨rfl, hf2⟩))
    go_ret
    exact ⟨rfl, HB.out.2.2.then0 hf2⟩

set_option maxRecDepth 100000 in
set_option maxHeartbeats 2000000 in
theorem rcheck_any (w : World) (v : Value) (t : Txn) (h : IsTxn w v t) (hv : Inv t) (p q : Int) :
    Calls Tryz.prog 75 #[v, .int .u8 p, .int .u8 q] w fun e w' => e = .returned (.int .i64 (if t.phase = p ∨ t.phase = q then 0 else 3)) ∧ Fr N0 w w' := by
  have hM := fun W (hf : Fr N0 w W) => rMay_any W v t (h.fr0 hf) hv
  obtain ⟨vw, vk, vn, vg, vl, rfl, h⟩ := h
  clear h hv
  obtain ⟨ph, st, cm, ws, ks, ns, gs, ls, fl⟩ := t
  simp only at hM ⊢
  have HM := Lib.hid hM
  clear hM
  have hcs : ((if ph = p ∨ ph = q then (0 : Int) else 3) = 0 ∧ ((ph != p) = false ∨ (ph != p) = true ∧ (ph != q) = false)) ∨ ((if ph = p ∨ ph = q then (0 : Int) else 3) = 3 ∧ (ph != p) = true ∧ (ph != q) = true) := by
    by_cases h1 : ph = p
    · exact .inl ⟨by rw [if_pos (.inl h1)], .inl (by simpa using h1)⟩
    · by_cases h2 : ph = q
      · exact .inl ⟨by rw [if_pos (.inr h2)], .inr ⟨by simpa using h1, by simpa using h2⟩⟩
      · exact .inr ⟨by rw [if_neg (by simp [h1, h2])], by simpa using h1, by simpa using h2⟩
  rcases hcs with ⟨hr, hd | ⟨hd, hd2⟩⟩ | ⟨hr, hd, hd2⟩
  all_goals
    rw [hr]
    clear hr
    go_enter Tryz.func75, Tryz.ntmps75
    go_wp2_with (go_at_call 16; go_loud (refine (HM.out _ ((Fr.refl _ _).alloc _)).mono ?_); rintro e w1 ⟨rfl, hf1⟩; have hB1 := boxS_keep hf1 (boxS_new w _ _); have m1 := hB1.1; have HB := Lib.hid hB1; clear hB1)
    go_ret
    exact ⟨rfl, HB.out.2.2⟩

end Go.Proofs.YthidminepegnoaaGreatDoor
