/- Seek, Has, Len of a list.
   Condition: at most 2^44 uids. -/
import Derived.Test.YtldboadcglofaaaTop
import Derived.Deep.RegionHeld3
namespace Go.Proofs.Ytldboadcglofaaa
open Go.RowKit Go.Shelf
attribute [local go_sem] Oper.semAt_some
set_option linter.unusedVariables false
set_option linter.unusedSimpArgs false

theorem run_loadVar_cell {P : Program} {w : World} {t : TypeId} {a : Addr} {v : Value} (hagg : (isAgg t).run P w = .ok false w) (hc : w.cell? a = some v) : (loadVar t a).run P w = .ok v w := by
  unfold loadVar
  rw [Sem.run_bind, hagg]
  simp [Result.andThen, load, Sem.run, hc]

theorem results_two {P : Program} {w : World} {fn : Func} {p q : Tmp} {t t' : TypeId} (h : fn.results = #[.cell p t, .cell q t']) (tmps : Array Value) {a b : Addr} {u v : Value} (hp : tmps.getD p undef = .pointer (some a)) (hq : tmps.getD q undef = .pointer (some b))
    (h1 : (loadVar t a).run P w = .ok u w) (h2 : (loadVar t' b).run P w = .ok v w) : (results fn tmps).run P w = .ok (.tuple #[u, v]) w := by
  simp only [results, h]
  simp only [Array.getD_eq_getD_getElem?] at hp hq
  simp [Sem.run_bind, Result.andThen, hp, hq, asAddr, Sem.run_pure, h1, h2]

theorem isAggU64 (w : World) : (isAgg 23).run Try.prog w = .ok false w := by kernel_rfl
theorem isAggBool (w : World) : (isAgg 4).run Try.prog w = .ok false w := by kernel_rfl

set_option maxHeartbeats 1000000 in
theorem len_any (w : World) (n : Nat) (p : Option Addr) (l : List Int) (h : IsL w n p l) : Calls Try.prog 14 #[.pointer p] w fun e w' => e = .returned (.int .i64 l.length) ∧ w = w' := by
  obtain ⟨bl, h1, rfl, h3, h4, h5⟩ := h
  rcases h1 with ⟨rfl, rfl⟩ | ⟨B, G, ga, gcap, rfl, hB, hG, hBo, hga, hbc, hgc, hbs⟩
  · go_enter Try.func14, Try.ntmps14
    go_wp2
    go_ret
    exact ⟨rfl, rfl⟩
  · have c1 : w.cell? ⟨B, 1, none⟩ = some (.int .i64 (uidsOf bl).length) := by simp [World.cell?, hBo]
    clear hBo hbs
    go_enter Try.func14, Try.ntmps14
    go_wp2
    go_ret
    exact ⟨rfl, rfl⟩

set_option maxHeartbeats 1000000 in
theorem seek1_le (f u : Int) (v : Value) (w : World) (h : f ≤ u) : Calls Try.prog 40 #[.agg #[.int .u64 f, v], .int .u64 u] w fun e w' => e = .returned (.int .i64 (-1)) ∧ Fr N0 w w' := by
  go_enter Try.func40, Try.ntmps40
  go_wp2
  go_ret
  exact ⟨rfl, (Fr.refl _ _).alloc _⟩

set_option maxHeartbeats 1000000 in
theorem seek1_gt (f u : Int) (v : Value) (w : World) (h : u < f) : Calls Try.prog 40 #[.agg #[.int .u64 f, v], .int .u64 u] w fun e w' => e = .returned (.int .i64 1) ∧ Fr N0 w w' := by
  go_enter Try.func40, Try.ntmps40
  go_wp2
  go_ret
  exact ⟨rfl, (Fr.refl _ _).alloc _⟩

/-- The block ahead of place i begins with at most u. -/
def AtMost (bl : List Blk) (u : Int) (i : Nat) : Prop := ∀ k (h : k < bl.length), k + 1 = i → bl[k].c.headD 0 ≤ u

set_option maxRecDepth 100000 in
set_option maxHeartbeats 1000000 in
theorem bsf_any (w : World) (n G : Nat) (ga : Option Addr) (gcap : Nat) (bl : List Blk) (u : Int) (hga : ga = some ⟨G, 0, none⟩ ∨ (ga = none ∧ gcap = 0)) (hbc : bl.length ≤ gcap) (hbl : bl.length ≤ 17592186044416)
    (hbs : ∀ i (h : i < bl.length), BlkAt w n G i bl[i]) (hG : G < n) (hn : n ≤ w.heap.size) :
    Calls Try.prog 39 #[.slice ga bl.length gcap, .int .u64 u, .func (.func 40) #[] #[]] w fun e w' =>
      ∃ (i : Nat) (f : Bool), e = .returned (.tuple #[.int .i64 i, .bool f]) ∧ i ≤ bl.length ∧ AtMost bl u i ∧ Fr N0 w w' := by
  have hga' : 0 < bl.length → ga = some ⟨G, 0, none⟩ := fun h => by
    rcases hga with h1 | ⟨h1, h2⟩
    · exact h1
    · omega
  have HB := Lib.hid hbs
  clear hga hbs
  go_enter Try.func39, Try.ntmps39
  go_wp2
  go_loopw [9, 10] (fun si sj wr => ∃ (i j : Nat), i ≤ j ∧ j ≤ bl.length ∧ si = .int .i64 i ∧ sj = .int .i64 j ∧ AtMost bl u i ∧ Fr N0 w wr) (fun si sj _ => (intOf sj).toNat - (intOf si).toNat)
  case atStart => exact ⟨0, bl.length, Nat.zero_le _, Nat.le_refl _, by go_num, rfl, fun _ _ h => absurd h (by omega), Fr.refl _ _⟩
  case round =>
    obtain ⟨i, j, hij, hjn, rfl, rfl, hh, hfr⟩ := hrel
    by_cases hlt : i < j
    · obtain rfl := hga' (by omega)
      have hh1 : (i + j) / 2 < bl.length := by omega
      have hb := HB.out _ hh1
      obtain ⟨e0, e1, _, _, _, _⟩ := hb
      replace e0 := hfr.cell (fun h => h) e0
      replace e1 := hfr.cell (fun h => h) e1
      have hmid : ∀ f, bl[(i + j) / 2].c.headD 0 = f → f ≤ u → AtMost bl u ((i + j) / 2 + 1) := fun f hf hle k hk hk1 => by
        obtain rfl : k = (i + j) / 2 := by omega
        rw [hf]; exact hle
      obtain ⟨f, hf⟩ : ∃ f, bl[(i + j) / 2].c.headD 0 = f := ⟨_, rfl⟩
      obtain ⟨vv, hvv⟩ : ∃ v, bl[(i + j) / 2].v = v := ⟨_, rfl⟩
      have hmid' := hmid f hf
      rw [hf] at e0; rw [hvv] at e1
      clear hmid hf hvv
      have i1 : (0 : Int) ≤ ((i : Int) + (j : Int)) / 2 := by omega
      have i2 : ((i : Int) + (j : Int)) / 2 < (bl.length : Int) := by omega
      have i3 : ((i : Int) + (j : Int)) / 2 < (j : Int) := by omega
      by_cases hfu : f ≤ u
      · go_wp2_with (go_at_call 40; refine (seek1_le _ _ _ _ hfu).mono ?_; rintro e w1 ⟨rfl, hf1⟩)
        go_roundw
        case rel => exact ⟨(i + j) / 2 + 1, j, by omega, hjn, by go_num, rfl, hmid' hfu, hfr.then0 hf1⟩
        case measure => simp [intOf]; omega
      · have hfu' : u < f := by omega
        go_wp2_with (go_at_call 40; refine (seek1_gt _ _ _ _ hfu').mono ?_; rintro e w1 ⟨rfl, hf1⟩)
        go_roundw
        case rel => exact ⟨i, (i + j) / 2, by omega, by omega, rfl, by go_num, hh, hfr.then0 hf1⟩
        case measure => simp [intOf]; omega
    · obtain rfl : i = j := by omega
      by_cases hin : i < bl.length
      · obtain rfl := hga' (by omega)
        obtain ⟨e0, e1, _, _, _, _⟩ := HB.out _ hin
        replace e0 := hfr.cell (fun h => h) e0
        replace e1 := hfr.cell (fun h => h) e1
        obtain ⟨f, hf⟩ : ∃ f, bl[i].c.headD 0 = f := ⟨_, rfl⟩
        obtain ⟨vv, hvv⟩ : ∃ v, bl[i].v = v := ⟨_, rfl⟩
        rw [hf] at e0; rw [hvv] at e1
        clear hf hvv
        by_cases hfu : f ≤ u
        · go_wp2_with (go_at_call 40; refine (seek1_le _ _ _ _ hfu).mono ?_; rintro e w1 ⟨rfl, hf1⟩)
          go_ret2
          exact ⟨i, _, rfl, by omega, hh, hfr.then0 hf1⟩
        · have hfu' : u < f := by omega
          go_wp2_with (go_at_call 40; refine (seek1_gt _ _ _ _ hfu').mono ?_; rintro e w1 ⟨rfl, hf1⟩)
          go_ret2
          exact ⟨i, _, rfl, by omega, hh, hfr.then0 hf1⟩
      · go_wp2
        go_ret2
        exact ⟨i, _, rfl, by omega, hh, hfr⟩

/-- The first of l that is at least u, and whether there is one. -/
def seekOf (l : List Int) (u : Int) : Int × Bool := match l.find? (fun x => decide (u ≤ x)) with
  | some x => (x, true)
  | none => (0, false)

theorem seekOf_drop {bl : List Blk} {k : Nat} {u : Int} (hs : (uidsOf bl).Pairwise (· < ·)) (hne : ∀ k ∈ bl, k.c ≠ []) (h : AtMost bl u k) (hk : k ≤ bl.length) :
    (uidsOf (bl.drop (k - 1))).find? (fun x => decide (u ≤ x)) = (uidsOf bl).find? (fun x => decide (u ≤ x)) := by
  by_cases h0 : k = 0
  · subst h0; simp
  · have hk1 : k - 1 < bl.length := by omega
    have hle := h (k - 1) hk1 (by omega)
    have hsp : uidsOf bl = uidsOf (bl.take (k - 1)) ++ uidsOf (bl.drop (k - 1)) := by rw [← uidsOf_append, List.take_append_drop]
    rw [hsp, List.find?_append]
    have hnone : (uidsOf (bl.take (k - 1))).find? (fun x => decide (u ≤ x)) = none := by
      rw [List.find?_eq_none]
      intro x hx
      rw [hsp] at hs
      have hd : uidsOf (bl.drop (k - 1)) = bl[k - 1].c ++ uidsOf (bl.drop (k - 1 + 1)) := by
        rw [List.drop_eq_getElem_cons hk1, uidsOf_cons]
      obtain ⟨y, c, hc⟩ := List.exists_cons_of_ne_nil (hne bl[k - 1] (List.getElem_mem hk1))
      have := (List.pairwise_append.1 hs).2.2 x hx y (by rw [hd, hc]; simp)
      rw [hc] at hle
      simp at hle ⊢
      omega
    rw [hnone]; rfl

theorem IsLb.ne {w : World} {n : Nat} {p : Option Addr} {bl : List Blk} (h : IsLb w n p bl) : ∀ k ∈ bl, k.c ≠ [] := by
  intro k hk
  rcases h with ⟨_, rfl⟩ | ⟨B, G, ga, gcap, rfl, hB, hG, hBo, hga, hbc, hgc, hbs⟩
  · simp at hk
  · obtain ⟨i, hi, rfl⟩ := List.getElem_of_mem hk
    exact (hbs i hi).ne

set_option maxRecDepth 100000 in
set_option maxHeartbeats 2000000 in
theorem seek_any (w : World) (n : Nat) (p : Option Addr) (l : List Int) (u : Int) (h : IsL w n p l) (hn : n ≤ w.heap.size) (hl : l.length ≤ 17592186044416) :
    Calls Try.prog 11 #[.pointer p, .int .u64 u] w fun e w' => e = .returned (.tuple #[.int .u64 (seekOf l u).1, .bool (seekOf l u).2]) ∧ Fr N0 w w' := by
  obtain ⟨bl, h1, rfl, h3, h4, h5⟩ := h
  have hne := h1.ne
  refine (callsIn_wide (n := 8)).1 ?_
  refine callsIn_of_wp_marks Try.func11 rfl trivial ?_ rfl
  simp only [Try.ntmps11, List.size_toArray, List.length_cons, List.length_nil, Nat.reduceAdd, Nat.reduceSub, Array.replicate_succ, Array.replicate_zero, List.push_toArray, List.append_toArray, List.nil_append, List.cons_append]
  rcases h1 with ⟨rfl, rfl⟩ | ⟨B, G, ga, gcap, rfl, hB, hG, hBo, hga, hbc, hgc, hbs⟩
  · gi_wp2
    refine ⟨_, results_two (u := .int .u64 0) (v := .bool false) rfl _ rfl rfl (run_loadVar_cell (isAggU64 _) ?_) (run_loadVar_cell (isAggBool _) ?_), rfl, (((Fr.refl _ _).alloc _).alloc _).alloc _⟩
    · go_simp
    · go_simp
  · have c0 : w.cell? ⟨B, 0, none⟩ = some (.slice ga bl.length gcap) := by simp [World.cell?, hBo]
    have hbl : bl.length ≤ 17592186044416 := by
      have : ∀ (b : List Blk), (∀ k ∈ b, k.c ≠ []) → b.length ≤ (uidsOf b).length := by
        intro b
        induction b with
        | nil => intro _; simp
        | cons x b ih =>
          intro hx
          have h1 := List.length_pos_iff.2 (hx x (by simp))
          have h2 := ih fun k hk => hx k (by simp [hk])
          rw [uidsOf_cons, List.length_append]; simp; omega
      exact Nat.le_trans (this bl hne) hl
    have HBo := Lib.hid hBo; have HBs := Lib.hid hbs; have HGA := Lib.hid hga
    clear hBo hbs hga
    have hW3 : ∃ W3, (((w.alloc (Obj.cells #[Value.int IntKind.u64 u] 23)).alloc (Obj.cells #[Value.int IntKind.u64 0] 23)).alloc (Obj.cells #[Value.bool false] 4)) = W3 := ⟨_, rfl⟩
    obtain ⟨W3, hW3⟩ := hW3
    have hz3 : W3.heap.size = w.heap.size + 3 := by rw [← hW3]; simp
    have hf3 : Fr N0 w W3 := by rw [← hW3]; exact (((Fr.refl _ _).alloc _).alloc _).alloc _
    have hb0 : W3.heap[w.heap.size]? = some (.cells #[.int .u64 u] 23 (0, 0)) := by
      rw [← hW3, Below.heap_alloc _ _ _ (by simp; omega), Below.heap_alloc _ _ _ (by simp)]; exact World.alloc_heap_new _ _
    have hb1 : W3.heap[w.heap.size + 1]? = some (.cells #[.int .u64 0] 23 (0, 0)) := by
      rw [← hW3, Below.heap_alloc _ _ _ (by simp)]
      have := World.alloc_heap_new (w.alloc (Obj.cells #[Value.int IntKind.u64 u] 23)) (Obj.cells #[Value.int IntKind.u64 0] 23)
      rwa [World.size_alloc] at this
    have hb2 : W3.heap[w.heap.size + 1 + 1]? = some (.cells #[.bool false] 4 (0, 0)) := by
      rw [← hW3]
      have := World.alloc_heap_new ((w.alloc (Obj.cells #[Value.int IntKind.u64 u] 23)).alloc (Obj.cells #[Value.int IntKind.u64 0] 23)) (Obj.cells #[Value.bool false] 4)
      rwa [World.size_alloc, World.size_alloc] at this
    have c3 := cell_of_one hb0
    have c0' : W3.cell? ⟨B, 0, none⟩ = some (.slice ga bl.length gcap) := hf3.cell (fun h => h) c0
    have hbsf := fun W (hW : Fr N0 w W) => bsf_any W n G ga gcap bl u HGA.out hbc hbl (fun i hi => (HBs.out i hi).below (hW.below (fun _ h => h.elim) hn) hG (Nat.le_refl _)) hG (Nat.le_trans hn hW.size)
    have HBSF := Lib.hid hbsf
    clear hbsf
    gi_wp2
    clear hW3
    refine (wpIn_wide (n := 8)).2 ?_
    go_region_held3 (fun W => W.cell? ⟨B, 0, none⟩ = some (.slice ga bl.length gcap) ∧ W.cell? ⟨w.heap.size, 0, none⟩ = some (.int .u64 u) ∧ Fr N0 W3 W) (first | exact ⟨by assumption, by assumption, (Fr.refl _ _).drew⟩ | exact ⟨hf1.cell (fun h => h) (by go_split_ands; assumption), hf1.cell (fun h => h) (by go_split_ands; assumption), Fr.then0 (by go_split_ands; assumption) hf1⟩ | (go_split_ands; exact ⟨by assumption, by assumption, by assumption⟩)) (first | (go_at_call 39; refine (HBSF.out _ (hf3.then0 (by go_split_ands; assumption))).mono ?_; rintro e w1 ⟨i, f, rfl, hi, hat, hf1⟩))
    have hfw : Fr N0 w w1 := hf3.then0 (by go_split_ands; assumption)
    have hf31 : Fr N0 W3 w1 := by go_split_ands; assumption
    have hin : i ≤ 17592186044416 := by omega
    obtain ⟨kk, hkk⟩ : ∃ kk : Nat, i - 1 = kk := ⟨_, rfl⟩
    have hfin := seekOf_drop h3 hne hat hi
    rw [hkk] at hfin
    have hkb : kk ≤ bl.length := by omega
    have HFIN := Lib.hid hfin; have HNE := Lib.hid hne; have H3 := Lib.hid h3; have H4 := Lib.hid h4
    have hb0' := (hf31.at (k := w.heap.size) (fun h => h) (by omega)).trans hb0
    have hb1' := (hf31.at (k := w.heap.size + 1) (fun h => h) (by omega)).trans hb1
    have hb2' := (hf31.at (k := w.heap.size + 1 + 1) (fun h => h) (by omega)).trans hb2
    have hz1 := hf31.size
    have hcase : (i = 0 ∧ kk = 0) ∨ i = kk + 1 := by omega
    clear HBSF hat hf1 hne h3 h4 hfin hb0 hb1 hb2 c3 c0' c0 hf31 hkk
    rcases hcase with ⟨hi0, hk0⟩ | hik
    all_goals
      first | subst hi0 | subst hik
      gi_wp2_with (refine ⟨trivial, ?_⟩; gi_at_call 41; refine (callsIn_wide.2 (from_any _ _ _)).mono ?_; rintro e w2 ⟨rfl, rfl⟩)
      obtain ⟨W4, hW4⟩ : ∃ W4, (w1.alloc (Obj.cells #[Value.pointer (some ⟨B, 0, none⟩)] 25)).alloc (Obj.cells #[Value.int .i64 (kk : Int)] 3) = W4 := ⟨_, rfl⟩
      have hf4 : Fr N0 w1 W4 := by rw [← hW4]; exact ((Fr.refl _ _).alloc _).alloc _
      have hz4 : W4.heap.size = w1.heap.size + 2 := by rw [← hW4]; simp
      have hbx : W4.heap[w1.heap.size]? = some (Obj.cells #[Value.pointer (some ⟨B, 0, none⟩)] 25 (0, 0)) := by
        rw [← hW4, Below.heap_alloc _ _ _ (by simp)]; exact World.alloc_heap_new _ _
      have hby : W4.heap[w1.heap.size + 1]? = some (Obj.cells #[Value.int .i64 (kk : Int)] 3 (0, 0)) := by
        rw [← hW4]
        have := World.alloc_heap_new (w1.alloc (Obj.cells #[Value.pointer (some ⟨B, 0, none⟩)] 25)) (Obj.cells #[Value.int .i64 (kk : Int)] 3)
        rwa [World.size_alloc] at this
      first
        | rw [hW4]
        | (rw [show (Value.int IntKind.i64 0) = Value.int .i64 (kk : Int) by rw [hk0]; rfl] at *; rw [hW4])
      have hseq := from1_seq W4 n w1.heap.size (w1.heap.size + 1) (some ⟨B, 0, none⟩) bl kk
        (.inr ⟨B, G, ga, gcap, rfl, hB, hG, ((hfw.then0 hf4).at (fun h => h) (by omega)).trans HBo.out, HGA.out, hbc, hgc, fun i hi => (HBs.out i hi).below ((hfw.then0 hf4).below (fun _ h => h.elim) hn) hG (Nat.le_refl _)⟩)
        hkb (by omega) (fun x hx => by have := H4.out x hx; omega) hbx hby
      have hnf := HFIN.out
      have hb4 : ∀ {k o}, w1.heap[k]? = some o → W4.heap[k]? = some o := fun h => (hf4.at (fun h => h) (lt_of_block h)).trans h
      have g0 := hb4 hb0'; have g1 := hb4 hb1'; have g2 := hb4 hb2'
      have hfw4 := hfw.then0 hf4
      have HSEQ := Lib.hid hseq
      clear hW4 hf4 hbx hby hb0' hb1' hb2' hb4 hseq
      refine (wpIn_wide (n := 8)).2 (wp_range1 25 8 rfl rfl enters_from1 HSEQ.out (SameOn.refl _ _)
        (fun k => k = w.heap.size ∨ k = w.heap.size + 1 ∨ k = w.heap.size + 1 + 1) (fun k hk => ⟨by omega, by omega⟩) (fun k hk => by omega)
        (fun S pre W => (S w.heap.size ∧ W.heap[w.heap.size]? = some (.cells #[.int .u64 u] 23 (0, 0))) ∧ (∀ x ∈ pre, x < u) ∧ S (w.heap.size + 1) ∧ S (w.heap.size + 1 + 1) ∧ W.heap[w.heap.size + 1]? = some (.cells #[.int .u64 0] 23 (0, 0)) ∧ W.heap[w.heap.size + 1 + 1]? = some (.cells #[.bool false] 4 (0, 0)))
        (fun c S pre W => c = .ret ∧ ∃ p0 x, pre = p0 ++ [x] ∧ (∀ y ∈ p0, y < u) ∧ u ≤ x ∧ S (w.heap.size + 1) ∧ S (w.heap.size + 1 + 1) ∧ W.heap[w.heap.size + 1]? = some (.cells #[.int .u64 x] 23 (0, 0)) ∧ W.heap[w.heap.size + 1 + 1]? = some (.cells #[.bool true] 4 (0, 0)))
        ?stable ?stablex ?start ?assign ?body ?done ?stop)
      case stable =>
        rintro S pre A C ⟨h0, h1, h2, h3, h4, h5⟩ hs
        exact ⟨⟨h0.1, (hs.block _ h0.1 (lt_of_block h0.2)).trans h0.2⟩, h1, h2, h3, (hs.block _ h2 (lt_of_block h4)).trans h4, (hs.block _ h3 (lt_of_block h5)).trans h5⟩
      case stablex =>
        rintro c S pre A C ⟨hc, p0, x, h0, h1, h1', h2, h3, h4, h5⟩ hs
        exact ⟨hc, p0, x, h0, h1, h1', h2, h3, (hs.block _ h2 (lt_of_block h4)).trans h4, (hs.block _ h3 (lt_of_block h5)).trans h5⟩
      case start => exact ⟨⟨.inl rfl, g0⟩, by simp, .inr (.inl rfl), .inr (.inr rfl), g1, g2⟩
      case assign =>
        intro l x W K hK
        simp only [List.setIfInBounds_toArray, List.set_cons_zero, List.set_cons_succ] at hK ⊢
        gi_wp2
        exact hK
      case body =>
        rintro l S pre x W ⟨⟨hs0, hc0⟩, hlt, hs1, hs2, hc1, hc2⟩ hpx hRW hbd
        have k0 := cell_of_one hc0
        have k1 := cell_of_one hc1; have k2 := cell_of_one hc2
        have f1 := free_of_one hc1; have f2 := free_of_one hc2
        simp only [List.setIfInBounds_toArray, List.set_cons_zero, List.set_cons_succ]
        by_cases hux : u ≤ x
        · gi_wp2
          have hne12 : w.heap.size + 1 ≠ w.heap.size + 1 + 1 := by omega
          refine ⟨S, ⟨rfl, pre, x, rfl, hlt, hux, hs1, hs2, ?_, ?_⟩, ((Fr.refl S W).setCell (.inl hs1) _).setCell (.inl hs2) _, fun k hk => ⟨.inl hk, by simpa [World.setCell] using (hbd k hk).2⟩⟩
          · rw [Below.heap_setCell _ _ _ _ hne12]; exact one_setCell hc1
          · exact one_setCell ((Below.heap_setCell _ _ _ _ (fun e => hne12 e.symm)).trans hc2)
        · gi_wp2
          exact ⟨S, ⟨⟨hs0, hc0⟩, fun y hy => by
            rcases List.mem_append.1 hy with hy | hy
            · exact hlt y hy
            · simp at hy; omega, hs1, hs2, hc1, hc2⟩, Fr.refl _ _, fun k hk => ⟨.inl hk, (hbd k hk).2⟩⟩
      case done =>
        rintro D S W ⟨⟨hs0, hc0⟩, hlt, hs1, hs2, hc1, hc2⟩ hfr hgr hD hDl hDS
        have k1 := cell_of_one hc1; have k2 := cell_of_one hc2
        have f1 := free_of_one hc1; have f2 := free_of_one hc2
        have hres : seekOf (uidsOf bl) u = (0, false) := by
          unfold seekOf
          rw [← HFIN.out, List.find?_eq_none.2 (fun x hx => by have := hlt x hx; simp; omega)]
        gi_wp2
        refine ⟨by simp, .inl ⟨_, _, rfl, run_takeDeferred ?_, ?_⟩⟩
        · rw [Below.heap_setCell _ _ _ _ (fun e => hDS (by rw [e]; exact hs2)), Below.heap_setCell _ _ _ _ (fun e => hDS (by rw [e]; exact hs1))]; exact hD
        · refine ⟨_, results_two (u := .int .u64 0) (v := .bool false) rfl _ rfl rfl (run_loadVar_cell (isAggU64 _) ?_) (run_loadVar_cell (isAggBool _) ?_), by rw [hres], ?_⟩
          · refine cell_of_one (t := 23) ?_
            rw [World.putObj_heap_other (fun e => hDS (by rw [← e]; exact hs1)), Below.heap_setCell _ _ _ _ (by simp)]
            exact one_setCell hc1
          · refine cell_of_one (t := 4) ?_
            rw [World.putObj_heap_other (fun e => hDS (by rw [← e]; exact hs2))]
            exact one_setCell ((Below.heap_setCell _ _ _ _ (by simp)).trans hc2)
          · exact ((((hfw4.trans hfr (T' := _) fun k hk => .inr (by omega)).setCell (.inr (by simp)) _).setCell (.inr (by simp; omega)) _).putObj (.inr (by omega)) _)
      case stop =>
        rintro D c S pre W hpx ⟨rfl, p0, x, rfl, hlt, hux, hs1, hs2, hc1, hc2⟩ hfr hgr hD hDl hDS
        have hres : seekOf (uidsOf bl) u = (x, true) := by
          unfold seekOf
          obtain ⟨t, ht⟩ := hpx
          rw [← HFIN.out, ← ht, List.find?_append, List.find?_append, List.find?_eq_none.2 (fun x hx => by have := hlt x hx; simp; omega)]
          simp [hux]
        refine (wpIn_wide (n := 8)).1 ?_
        gi_wp2
        refine ⟨by simp, .inl ⟨_, _, rfl, run_takeDeferred hD, ?_⟩⟩
        refine ⟨_, results_two (u := .int .u64 x) (v := .bool true) rfl _ rfl rfl (run_loadVar_cell (isAggU64 _) ?_) (run_loadVar_cell (isAggBool _) ?_), by rw [hres], ?_⟩
        · exact cell_of_one (t := 23) ((World.putObj_heap_other (fun e => hDS (by rw [← e]; exact hs1))).trans hc1)
        · exact cell_of_one (t := 4) ((World.putObj_heap_other (fun e => hDS (by rw [← e]; exact hs2))).trans hc2)
        · exact (hfw4.trans hfr fun k hk => .inr (by omega)).putObj (.inr (by omega)) _

theorem has_iff {l : List Int} (hs : l.Pairwise (· < ·)) (u : Int) : ((seekOf l u).2 && (seekOf l u).1 == u) = decide (u ∈ l) := by
  unfold seekOf
  cases h : l.find? (fun x => decide (u ≤ x)) with
  | none =>
    rw [List.find?_eq_none] at h
    have : u ∉ l := fun hu => by have := h u hu; simp at this
    simp [this]
  | some x =>
    have hx := List.find?_some h
    have hm := List.mem_of_find?_eq_some h
    simp at hx
    by_cases e : x = u
    · subst e; simp [hm]
    · have : u ∉ l := fun hu => by
        obtain ⟨_, l1, l2, hl, has⟩ := List.find?_eq_some_iff_append.1 h
        rw [hl] at hu hs
        rcases List.mem_append.1 hu with h1 | h1
        · have := has u h1; simp at this
        · rcases List.mem_cons.1 h1 with h1 | h1
          · exact e h1.symm
          · have := (List.pairwise_cons.1 (List.pairwise_append.1 hs).2.1).1 u h1
            omega
      simp [this, e]

set_option maxHeartbeats 1000000 in
theorem has_any (w : World) (n : Nat) (p : Option Addr) (l : List Int) (u : Int) (h : IsL w n p l) (hn : n ≤ w.heap.size) (hl : l.length ≤ 17592186044416) :
    Calls Try.prog 16 #[.pointer p, .int .u64 u] w fun e w' => e = .returned (.bool (decide (u ∈ l))) ∧ Fr N0 w w' := by
  have hs : l.Pairwise (· < ·) := by obtain ⟨_, _, _, h3, _⟩ := h; exact h3
  have hk := seek_any w n p l u h hn hl
  rw [← has_iff hs]
  obtain ⟨x, hx⟩ : ∃ x, seekOf l u = x := ⟨_, rfl⟩
  rw [hx] at hk ⊢
  obtain ⟨v, b⟩ := x
  clear h hs hx
  cases b
  all_goals
    go_enter Try.func16, Try.ntmps16
    go_wp2_with (go_at_call 11; refine hk.mono ?_; rintro e w1 ⟨rfl, hf⟩)
    go_ret
    exact ⟨by simp, hf⟩

end Go.Proofs.Ytldboadcglofaaa
